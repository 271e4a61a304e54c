/-
  tally.Put: what it lays behind bytes.
-/
import Derived.Test.YtmokngiokdffdaaP1
namespace Go.Proofs.Ytmokngiokdffdaa.P
open Go.RowKit Go.Proofs.YtmokngiokdffdaaW.PrintWords Go.Proofs.YtmokngiokdffdaaW.PrintLast Go.Proofs.YtmokngiokdffdaaW.PrintMore
set_option linter.unusedVariables false

theorem rd_nat (l : List Int) (i : Nat) (h : i < l.length) : rd l (i : Int) = l[i] := by
  unfold rd; simp [h]
theorem wrap_nat_succ (i : Nat) (h : i < 4611686018427387904) : wrap64 ((i : Int) + 1) = ((i + 1 : Nat) : Int) := by unfold wrap64; omega

/-- How many digits to the base 256. -/
def dg : Nat → Nat → Nat
  | 0, _ => 0
  | f + 1, n => if n = 0 then 0 else 1 + dg f (n / 256)
/-- The bytes of a number: how many, and then the digits, the greatest first. -/
def beD (n k : Nat) : List Int := (List.range k).map fun i => ((n / 256 ^ (k - 1 - i) % 256 : Nat) : Int)
def putB (n : Nat) : List Int := ((dg 8 n : Nat) : Int) :: beD n (dg 8 n)

theorem dg_le (f : Nat) : ∀ n, n < 256 ^ f → dg f n ≤ f ∧ (n < 256 ^ dg f n) := by
  induction f with
  | zero => intro n h; simp at h; subst h; exact ⟨Nat.le_refl _, by simp [dg]⟩
  | succ f ih =>
    intro n h
    unfold dg
    by_cases h0 : n = 0
    · rw [if_pos h0]; exact ⟨Nat.zero_le _, by simp [h0]⟩
    · rw [if_neg h0]
      obtain ⟨h1, h2⟩ := ih (n / 256) (by rw [Nat.pow_succ] at h; omega)
      refine ⟨by omega, ?_⟩
      rw [Nat.add_comm, Nat.pow_succ]; omega

theorem Size_l0 (d : Nat) : ∀ (k n s : Nat), n < 256 ^ d → d < k → s + d < 150 → tally_Size.l0 k (n : Int) (s : Int) = some ((s + dg d n : Nat) : Int) := by
  induction d with
  | zero =>
    intro k n s h hk hs
    obtain ⟨k, rfl⟩ : ∃ q, k = q + 1 := ⟨k - 1, by omega⟩
    simp at h; subst h
    simp only [tally_Size.l0]
    rw [if_neg (by omega)]; rfl
  | succ d ih =>
    intro k n s h hk hs
    obtain ⟨k, rfl⟩ : ∃ q, k = q + 1 := ⟨k - 1, by omega⟩
    simp only [tally_Size.l0]
    by_cases h0 : n = 0
    · subst h0
      rw [if_neg (by omega)]; simp [dg]
    · have e1 : (n : Int) / 256 = ((n / 256 : Nat) : Int) := by omega
      rw [if_pos (by omega), e1, wrap_nat_succ s (by omega), ih k (n / 256) (s + 1) (by rw [Nat.pow_succ] at h; omega) (by omega) (by omega)]
      have e2 : dg (d + 1) n = 1 + dg d (n / 256) := by rw [dg, if_neg h0]
      rw [e2]; congr 2; omega
theorem Size_eq (k n : Nat) (hn : n < 9223372036854775808) (hk : 9 ≤ k) : tally_Size.f k (n : Int) = some ((dg 8 n + 1 : Nat) : Int) := by
  unfold tally_Size.f
  rw [if_neg (by omega)]
  have h := Size_l0 8 k n 1 (Nat.lt_trans hn (by decide)) (by omega) (by omega)
  have e0 : ((1 : Nat) : Int) = 1 := rfl
  rw [e0] at h
  rw [h]; congr 2; omega

theorem beD_length (n k : Nat) : (beD n k).length = k := by simp [beD]
theorem beD_get (n k i : Nat) (h : i < k) : (beD n k)[i]? = some ((n / 256 ^ (k - 1 - i) % 256 : Nat) : Int) := by
  simp [beD, h]

/-- The shifted number's low byte. -/
theorem byte_key (n k i : Nat) (hn : n < 9223372036854775808) (hi : i < k) (hk : k ≤ 8) :
    ((n : Int) / 2 ^ (8 * (k - 1 - i))) % 256 = ((n / 256 ^ (k - 1 - i) % 256 : Nat) : Int) := by
  have e : (256 : Nat) ^ (k - 1 - i) = 2 ^ (8 * (k - 1 - i)) := by rw [Nat.pow_mul]
  rw [e]
  have h2 : ((2 : Int) ^ (8 * (k - 1 - i))) = (((2 : Nat) ^ (8 * (k - 1 - i)) : Nat) : Int) := by simp
  rw [h2]
  generalize (2 : Nat) ^ (8 * (k - 1 - i)) = p
  omega

theorem C_olds {w : World} {A : Option Addr} {l : List Int} (h : Kd.C (Kd.int .u8) w A l.length l) :
    (A = none → l.length = 0 ∧ l.length = 0) ∧ ∀ b, A = some b → ∀ j u, (nums .u8 l)[j]? = some u → w.cell? (b.add j) = some u := by
  constructor
  · rintro rfl
    cases l with
    | nil => exact ⟨rfl, rfl⟩
    | cons x l =>
      obtain ⟨ad, e, _⟩ := Kd.at_int h 0 (by omega) (by simp)
      cases e
  · rintro b rfl j u hu
    have hj : j < l.length := by
      have := (List.getElem?_eq_some_iff.1 hu).1
      simpa [nums] using this
    obtain ⟨ad, e, hc⟩ := Kd.at_int h (j : Int) (by omega) (by omega)
    cases e
    have hu2 : u = .int .u8 (rd l (j : Int)) := by
      rw [rd_nat l j hj]
      simp [nums, hj] at hu
      exact hu.symm
    rw [hu2]; exact hc

set_option maxRecDepth 100000 in
set_option maxHeartbeats 4000000 in
theorem Put_pos (A0 : Option Addr) (c0 : Nat) (l0 : List Int) (n : Nat) (hn : n < 9223372036854775808) (w : World) (hr0 : Kd.C (Kd.int .u8) w A0 l0.length l0) (hc0 : l0.length ≤ c0) (hl : l0.length < 1099511627776) :
    Calls Try.prog 24 #[.slice A0 l0.length c0, .int .i64 (n : Int)] w fun e w' => ∃ v, e = .returned v ∧ Kd.R (Kd.int .u8) 5 w' w.heap.size (fun _ => True) v (l0 ++ putB n) ∧ Below w.heap.size w w' := by
  have HR := Aside0.mk hr0
  have HB := Aside0.mk (Below.refl w.heap.size w)
  have hS0 := Size_eq 9 n hn (by omega)
  have hk8 := (dg_le 8 n (Nat.lt_trans hn (by decide))).1
  have hneg : decide ((n : Int) < 0) = false := by simp
  obtain ⟨i0, hi, hz0, hz1, hz2⟩ := info_parts info5
  generalize hkk : dg 8 n = kk at hS0 hk8
  obtain ⟨kI, hkI⟩ : ∃ kI : Int, (kk : Int) = kI := ⟨_, rfl⟩
  have hb0 : 0 ≤ kI := by omega
  have hb1 : kI ≤ 8 := by omega
  have hS : Aside0 (tally_Size.f 9 (n : Int) = some (kI + 1)) := ⟨by rw [hS0, ← hkI]; rfl⟩
  have HKI := Aside0.mk hkI
  have HKK := Aside0.mk hkk
  clear hS0 hkk hkI hr0 hk8
  go_enter Try.func24, Try.ntmps24
  go_wp2_with (first
    | (go_at_call 31; refine (tally_Size.calls 9 (n : Int) (kI + 1) _ hS.out).mono ?_; rintro e w' ⟨rfl, ⟨nd, rfl⟩⟩)
    | ((with_reducible refine gate_builtin (b := .append) (xs := #[.tmp 19, .tmp 22]) rfl ?_); at_builtin; refine wpList_append_grows _ rfl (.tmp 19) (.tmp 22) 53 rfl 5 i0 (.int .u8 0) 1 1 Try.underlying53 hi hz0 hz1 hz2 rfl (by decide) A0 l0.length l0.length (nums .u8 l0) rfl (C_olds HR.out).1 (by simp [nums]) ?ao ⟨_, 0, none⟩ 1 1 [.int .u8 kI] rfl rfl (cell_one_new _ _ _) (by simp [Value.oneCell']) (by omega) (by unfold maxLen; omega) (by omega) ?_; (case ao => exact fun b hb j u hu => pw_cell_below (below_alloc (pw_below_drewN (Below.refl _ _) _) _) ((C_olds HR.out).2 b hb j u hu)); intro v1 w1 hown hgrow; have HB1 := Aside0.mk ((below_alloc (pw_below_drewN (Below.refl w.heap.size w) nd) (.cells #[.int .u8 kI] 5)).grown hgrow (by simp) (fun k e => by cases e)); have HO1 : Aside0 (Kd.R (Kd.int .u8) 5 w1 w.heap.size (fun _ => True) v1 (l0 ++ [kI])) := ⟨Kd.R_of_own (by have := own_less hown (base := w.heap.size) (by simp); simpa [nums, encs] using this) (fun _ _ => trivial)⟩; clear HB hown hgrow; have HB := HB1; clear HB1))
  go_loopw [0, 25] (fun v0 v25 wr => ∃ (i : Int), v25 = .int .i64 i ∧ Aside0 (0 ≤ i ∧ i ≤ kI) ∧ Aside0 (Kd.R (Kd.int .u8) 5 wr w.heap.size (fun _ => True) v0 (l0 ++ [kI] ++ (beD n kk).take i.toNat)) ∧ Aside0 (Below w.heap.size w wr)) (fun _ v25 _ => kk - (intOf v25).toNat)
  case atStart => exact ⟨0, rfl, ⟨by omega⟩, ⟨by simpa using HO1.out⟩, HB⟩
  case round =>
    clear HB HO1
    obtain ⟨i, rfl, HI, HO, HB⟩ := hrel
    by_cases c2 : i < kI
    · have c2b0 : decide (i < kI) = true := decide_eq_true c2
      have hi0 := HI.out.1
      have hlen : (l0 ++ [kI] ++ (beD n kk).take i.toNat).length + 1 < 17592186044416 := by
        have := List.length_take_le i.toNat (beD n kk)
        have h2 := beD_length n kk
        have h3 := HKI.out
        simp only [List.length_append, List.length_cons, List.length_nil]
        omega
      have HLEN := Aside0.mk hlen
      have HC2 := Aside0.mk c2
      have hy := byte_key n kk i.toNat hn (by have := HKI.out; omega) (by have := HKI.out; omega)
      have ey : (8 * (kI - 1 - i)).toNat = 8 * (kk - 1 - i.toNat) := by have := HKI.out; omega
      have HY : Aside0 ((n : Int) / 2 ^ (8 * (kI - 1 - i)).toNat % 256 = ((n / 256 ^ (kk - 1 - i.toNat) % 256 : Nat) : Int)) := ⟨by rw [ey]; exact hy⟩
      clear hlen hy ey
      go_wp2_with ((with_reducible refine gate_builtin (b := .append) (xs := #[.tmp 28, .tmp 37]) rfl ?_); at_builtin; refine Kd.R_append (Kd.int .u8) (w0 := w) w.heap.size rfl (.tmp 28) (.tmp 37) 53 5 (.int .u8 0) 1 rfl Try.underlying53 info5 rfl (by decide) (by omega) u0 (l0 ++ [kI] ++ (beD n kk).take i.toNat) ((n : Int) / 2 ^ (8 * (kI - 1 - i)).toNat % 256) [.int .u8 ((n : Int) / 2 ^ (8 * (kI - 1 - i)).toNat % 256)] (fun _ => True) (fun _ => False) rfl rfl ?aP (fun _ hk => hk.elim) ?aF ?aO ?aB ?aS ?aL ?_; (case aP => exact rfl); (case aB => exact (by repeat (first | (with_reducible first | exact HB.out | apply below_alloc | apply pw_below_drewN | apply below_drew1) | exact HB.out))); (case aF => exact (fun _ _ => trivial)); (case aO => exact (by (with_reducible repeat (first | apply Kd.R_alloc | apply Kd.R_drewN | apply Kd.R_drew)); exact HO.out)); (case aS => exact (below_size (by repeat (first | (with_reducible first | exact HB.out | apply below_alloc | apply pw_below_drewN | apply below_drew1) | exact HB.out)))); (case aL => have := HLEN.out; omega); intro v3 w3 ho hb hg hat; have HO3 := Aside0.mk ho; clear HO HB ho hg hat; have HB := Aside0.mk hb; clear hb)
      go_roundw
      case rel =>
        have h2 := HC2.out
        have h3 := HKI.out
        have h4 : (i + 1).toNat = i.toNat + 1 := by omega
        have hw : wrap64 (i + 1) = i + 1 := by unfold wrap64; omega
        refine ⟨i + 1, rfl, ⟨by omega⟩, ⟨?_⟩, HB⟩
        have h5 : i.toNat < (beD n kk).length := by rw [beD_length]; omega
        have h6 : (beD n kk)[i.toNat] = ((n / 256 ^ (kk - 1 - i.toNat) % 256 : Nat) : Int) := by
          have := beD_get n kk i.toNat (by omega)
          rw [List.getElem?_eq_getElem h5] at this
          exact Option.some.inj this
        rw [h4, List.take_succ_eq_append_getElem h5, h6, ← List.append_assoc, ← HY.out]
        exact HO3.out
      case measure =>
        have h2 := HC2.out
        have h3 := HKI.out
        simp [intOf]; omega
    · have c2b0 : decide (i < kI) = false := decide_eq_false c2
      have HC2 := Aside0.mk c2
      clear c2
      go_wp2
      go_ret
      have h2 := HC2.out
      have h3 := HKI.out
      have h7 : l0 ++ [kI] ++ (beD n kk).take i.toNat = l0 ++ putB n := by
        unfold putB
        rw [HKK.out, List.take_of_length_le (by rw [beD_length]; omega), h3, List.append_assoc]; rfl
      rw [h7] at HO
      exact ⟨_, rfl, HO.out, HB.out⟩

end Go.Proofs.Ytmokngiokdffdaa.P
