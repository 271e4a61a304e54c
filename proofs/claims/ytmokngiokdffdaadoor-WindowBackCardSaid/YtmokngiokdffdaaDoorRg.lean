/-
  tally's reader: number where it fits; Num.
-/
import Derived.Test.YtmokngiokdffdaaDoorRf
import Derived.Laws.BitsLemmas
namespace Go.Proofs.YtmokngiokdffdaaDoor.P
open Go.RowKit Go.Proofs.YtmokngiokdffdaaDoorW.PrintWords Go.Proofs.YtmokngiokdffdaaDoorW.PrintLast Go.Proofs.YtmokngiokdffdaaDoorW.PrintMore
set_option linter.unusedVariables false

theorem valF_foldl (l : List Int) : ∀ a : Int, l.foldl (fun n x => 256 * n + x) a = a * 256 ^ l.length + valF l := by
  induction l with
  | nil => intro a; simp [valF]
  | cons x l ih =>
    intro a
    have h2 : valF (x :: l) = (256 * 0 + x) * 256 ^ l.length + valF l := ih _
    simp only [List.foldl_cons]
    rw [ih, h2, List.length_cons, Int.pow_succ]
    simp only [Int.mul_zero, Int.zero_add, Int.add_mul]
    rw [Int.mul_comm 256 a, Int.mul_assoc, Int.mul_comm 256, Int.add_assoc]
theorem valF_cons (x : Int) (l : List Int) : valF (x :: l) = x * 256 ^ l.length + valF l := by
  have h : valF (x :: l) = (256 * 0 + x) * 256 ^ l.length + valF l := valF_foldl l (256 * 0 + x)
  simpa using h
theorem valF_snoc (l : List Int) (x : Int) : valF (l ++ [x]) = 256 * valF l + x := by
  unfold valF; rw [List.foldl_append]; rfl
theorem valF_lt (l : List Int) (hb : ∀ x ∈ l, 0 ≤ x ∧ x < 256) : 0 ≤ valF l ∧ valF l < 256 ^ l.length := by
  induction l with
  | nil => simp [valF]
  | cons x l ih =>
    obtain ⟨h1, h2⟩ := ih (fun y hy => hb y (List.mem_cons_of_mem _ hy))
    obtain ⟨h3, h4⟩ := hb x List.mem_cons_self
    rw [valF_cons, List.length_cons, Int.pow_succ]
    have hp : (0 : Int) ≤ 256 ^ l.length := Int.pow_nonneg (by decide)
    generalize (256 : Int) ^ l.length = p at *
    have h5 : 0 ≤ x * p := Int.mul_nonneg h3 hp
    have h6 : x * p ≤ 255 * p := Int.mul_le_mul_of_nonneg_right (by omega) hp
    constructor
    · omega
    · rw [Int.mul_comm p 256]; omega
theorem valF_low (x : Int) (l : List Int) (hb : ∀ x ∈ l, 0 ≤ x ∧ x < 256) (h0 : 0 ≤ x) (h1 : x ≤ 127) : valF (x :: l) < 128 * 256 ^ l.length := by
  obtain ⟨h2, h3⟩ := valF_lt l hb
  rw [valF_cons]
  have hp : (0 : Int) ≤ 256 ^ l.length := Int.pow_nonneg (by decide)
  generalize (256 : Int) ^ l.length = p at *
  have h6 : x * p ≤ 127 * p := Int.mul_le_mul_of_nonneg_right h1 hp
  omega
theorem pow_le_int {a b : Nat} (h : a ≤ b) : (256 : Int) ^ a ≤ 256 ^ b := by
  have := Nat.pow_le_pow_right (show 0 < 256 by decide) h
  have e : ∀ n : Nat, (256 : Int) ^ n = ((256 ^ n : Nat) : Int) := fun n => by simp
  rw [e, e]; omega

/-- The number so far, at each place, leaves room for one more byte. -/
theorem val_room (L : List Int) (hb : ∀ x ∈ L, 0 ≤ x ∧ x < 256) (h8 : L.length ≤ 8) (hlow : L.length = 8 → L.getD 0 0 ≤ 127) (i : Nat) (hi : i < L.length) : 0 ≤ valF (L.take i) ∧ valF (L.take i) * 256 < 9223372036854775808 := by
  have hbt : ∀ x ∈ L.take i, 0 ≤ x ∧ x < 256 := fun x hx => hb x (List.mem_of_mem_take hx)
  obtain ⟨h1, h2⟩ := valF_lt (L.take i) hbt
  refine ⟨h1, ?_⟩
  rw [List.length_take, Nat.min_eq_left (by omega)] at h2
  by_cases h7 : i ≤ 6
  · have := pow_le_int h7
    have e : (256 : Int) ^ 6 = 281474976710656 := by decide
    omega
  · have hl8 : L.length = 8 := by omega
    have hi7 : i = 7 := by omega
    subst hi7
    cases L with
    | nil => simp at hl8
    | cons x t =>
      have hx := hlow hl8
      simp at hx
      have hx0 := hb x List.mem_cons_self
      have h3 := valF_low x (t.take 6) (fun y hy => hb y (List.mem_cons_of_mem _ (List.mem_of_mem_take hy))) hx0.1 hx
      have h4 : (t.take 6).length = 6 := by simp at hl8; rw [List.length_take]; omega
      have e : (256 : Int) ^ 6 = 281474976710656 := by decide
      rw [h4, e] at h3
      simp only [List.take_succ_cons]
      omega

theorem or_key (N x : Int) (h0 : 0 ≤ N) (h1 : N * 256 < 9223372036854775808) (h2 : 0 ≤ x) (h3 : x < 256) : bits .or .i64 (N * 256) x = N * 256 + x :=
  bits_join .i64 63 (by decide) (fun n a b => by rw [IntKind.wrap_i64]; omega) 8 (N * 256) x (by omega) (by omega) (by omega) h2 (by omega) (by omega)

theorem rd_drop (rest : List Int) (k : Nat) (i : Nat) (h : i < k) (hk : k < rest.length) : ((rest.drop 1).take k).length = k ∧ (((rest.drop 1).take k)[i]?).getD 0 = rd rest ((i + 1 : Nat) : Int) := by
  have hl : ((rest.drop 1).take k).length = k := by rw [List.length_take, List.length_drop]; omega
  refine ⟨hl, ?_⟩
  rw [rd_nat rest (i + 1) (by omega), List.getElem?_take, if_pos h, List.getElem?_drop, Nat.add_comm, List.getElem?_eq_getElem (by omega)]
  rfl

theorem walk_cell {w : World} {ad : Addr} {rest : List Int} (h : Kd.C (Kd.int .u8) w (some ad) rest.length rest) (i : Int) (h0 : 0 ≤ i) (h1 : i + 1 < rest.length) :
    w.cell? ⟨ad.block, ad.off + 1 + i.toNat, none⟩ = some (.int .u8 (rd rest (i + 1))) := by
  obtain ⟨ad2, e, hc⟩ := Kd.at_int h (i + 1) (by omega) (by omega)
  cases e
  have e1 : ad.add (i + 1).toNat = ⟨ad.block, ad.off + 1 + i.toNat, none⟩ := by
    have : (i + 1).toNat = i.toNat + 1 := by omega
    rw [this]
    unfold Addr.add
    rw [if_neg (by omega)]
    have e2 : ad.off + (i.toNat + 1) = ad.off + 1 + i.toNat := by omega
    rw [e2]
  rw [← e1]; exact hc

set_option maxRecDepth 100000 in
set_option maxHeartbeats 8000000 in
theorem number_ok (w0 w : World) (g : Nat) (rest : List Int) (e : Int) (hI : RdP w0 w g rest e) (h0 : 0 < rest.length) (h1 : rd rest 0 ≤ 8) (h2 : rd rest 0 < (rest.length : Int))
    (h3 : 0 < rd rest 0 → rd rest 1 ≠ 0) (h4 : rd rest 0 = 8 → rd rest 1 ≤ 127) :
    Calls Tryd.prog 63 #[.pointer (some ⟨g, 0, none⟩)] w fun en w' => en = .returned (.tuple #[.int .i64 (valF ((rest.drop 1).take (rd rest 0).toNat)), .int .i64 (1 + rd rest 0), .int .i64 0]) ∧ w' = w := by
  obtain ⟨ad, c, q0, hc, hC, hx0, hb1, hb2⟩ := hI.open1 h0
  have hbyte : ∀ x ∈ (rest.drop 1).take (rd rest 0).toNat, 0 ≤ x ∧ x < 256 := fun x hx => hI.byte x (List.mem_of_mem_drop (List.mem_of_mem_take hx))
  have HRB := Aside0.mk (rd_byte hI.byte)
  have h5 : 0 < rd rest 0 → w.cell? ⟨ad.block, ad.off + 1, none⟩ = some (.int .u8 (rd rest 1)) ∧ 0 ≤ rd rest 1 ∧ rd rest 1 < 256 := fun h => hI.open2 hC (by omega)
  obtain ⟨kk, hkk⟩ : ∃ kk : Nat, rd rest 0 = (kk : Int) := ⟨(rd rest 0).toNat, by omega⟩
  have hroom : ∀ i, i < kk → 0 ≤ valF (((rest.drop 1).take kk).take i) ∧ valF (((rest.drop 1).take kk).take i) * 256 < 9223372036854775808 := by
    intro i hi
    have hl := (rd_drop rest kk i hi (by omega)).1
    have e0 : (rd rest 0).toNat = kk := by omega
    rw [e0] at hbyte
    refine val_room _ hbyte (by omega) (fun h8 => ?_) i (by omega)
    have hz := (rd_drop rest kk 0 (by omega) (by omega)).2
    rw [List.getD_eq_getElem?_getD, hz]
    exact h4 (by omega)
  have e0 : (rd rest 0).toNat = kk := by omega
  rw [e0]
  clear hbyte e0
  have HV := Aside0.mk hroom
  have HC := Aside0.mk hC
  have hl0 : ((rest.length : Int) == 0) = false := beq_eq_false_iff_ne.mpr (by omega)
  rw [hkk] at hx0 hb1 hb2 h1 h2 h3 h4 h5 ⊢
  have hd : decide (8 < (kk : Int)) = false := decide_eq_false (by omega)
  have hd2 : decide ((rest.length : Int) ≤ (kk : Int)) = false := decide_eq_false (by omega)
  clear hI hC hroom hkk
  by_cases hx : 0 < (kk : Int)
  · have hd3 : decide (0 < (kk : Int)) = true := decide_eq_true hx
    have hd3' : decide (0 < kk) = true := decide_eq_true (by omega)
    obtain ⟨q1, hb3, hb4⟩ := h5 hx
    have hn1 := h3 hx
    have hd4 : (rd rest 1 == 0) = false := beq_eq_false_iff_ne.mpr hn1
    have hl1 : 1 < (rest.length : Int) := by omega
    have hc1 : (1 : Int) < (c : Int) := by omega
    generalize rd rest 1 = x1 at q1 hb3 hb4 hd4 h4
    clear h3 h5 hn1
    by_cases hx8 : (kk : Int) = 8
    · have hd8 : ((kk : Int) == 8) = true := beq_iff_eq.mpr hx8
      have hlow := h4 hx8
      have hd9 : decide (127 < x1) = false := decide_eq_false (by omega)
      clear h4 hx8
      go_enter Tryd.func63, Tryd.ntmps63
      go_wp2
      go_loop [2, 63] (fun v2 v63 => ∃ (x2 i : Int), v2 = .int .i64 x2 ∧ v63 = .int .i64 i ∧ Aside0 (0 ≤ i ∧ i ≤ (kk : Int) ∧ x2 = valF (((rest.drop 1).take kk).take i.toNat))) (fun _ v63 => kk - (intOf v63).toNat)
      case atStart => exact ⟨0, 0, rfl, rfl, ⟨Int.le_refl _, by omega, rfl⟩⟩
      case round =>
        obtain ⟨x2, i, rfl, rfl, HI2⟩ := hrel
        by_cases c2 : i < (kk : Int)
        · have c2b0 : decide (i < (kk : Int)) = true := decide_eq_true c2
          have hi0 := HI2.out.1
          obtain ⟨hN0, hN1⟩ := HV.out i.toNat (by omega)
          have hcell := walk_cell HC.out i hi0 (by omega)
          obtain ⟨hy0, hy1⟩ := HRB.out (i + 1) (by omega) (by omega)
          have HRD := Aside0.mk (rd_drop rest kk i.toNat (by omega) (by omega))
          have e1 : ((i.toNat + 1 : Nat) : Int) = i + 1 := by omega
          have HE1 := Aside0.mk e1
          rw [← HI2.out.2.2] at hN0 hN1
          generalize hy : rd rest (i + 1) = y at hcell hy0 hy1
          have HY := Aside0.mk hy
          have HOR := Aside0.mk (or_key x2 y hN0 hN1 hy0 hy1)
          clear hy e1
          go_wp2
          go_round
          case rel =>
            have h1 := HI2.out
            have h2 := HRD.out.2
            have h3 := HE1.out
            refine ⟨x2 * 256 + y, i + 1, by rw [HOR.out], rfl, ⟨by omega, by omega, ?_⟩⟩
            have e4 : (i + 1).toNat = i.toNat + 1 := by omega
            have h5 : i.toNat < ((rest.drop 1).take kk).length := by rw [HRD.out.1]; omega
            rw [e4, List.take_succ_eq_append_getElem h5, valF_snoc, ← h1.2.2]
            rw [List.getElem?_eq_getElem h5, h3, HY.out] at h2
            rw [show ((rest.drop 1).take kk)[i.toNat] = y from h2]
            omega
          case measure => simp [intOf]; omega
        · have c2b0 : decide (i < (kk : Int)) = false := decide_eq_false c2
          have HC2 := Aside0.mk c2
          clear c2
          go_wp2
          go_ret3
          have h1 := HI2.out
          have h2 := HC2.out
          have hl : (((rest.drop 1).take kk)).length ≤ i.toNat := by rw [List.length_take]; omega
          rw [h1.2.2, List.take_of_length_le hl]
          exact ⟨by simp, rfl⟩
    · have hd8 : ((kk : Int) == 8) = false := beq_eq_false_iff_ne.mpr hx8
      clear h4 hx8
      go_enter Tryd.func63, Tryd.ntmps63
      go_wp2
      go_loop [2, 63] (fun v2 v63 => ∃ (x2 i : Int), v2 = .int .i64 x2 ∧ v63 = .int .i64 i ∧ Aside0 (0 ≤ i ∧ i ≤ (kk : Int) ∧ x2 = valF (((rest.drop 1).take kk).take i.toNat))) (fun _ v63 => kk - (intOf v63).toNat)
      case atStart => exact ⟨0, 0, rfl, rfl, ⟨Int.le_refl _, by omega, rfl⟩⟩
      case round =>
        obtain ⟨x2, i, rfl, rfl, HI2⟩ := hrel
        by_cases c2 : i < (kk : Int)
        · have c2b0 : decide (i < (kk : Int)) = true := decide_eq_true c2
          have hi0 := HI2.out.1
          obtain ⟨hN0, hN1⟩ := HV.out i.toNat (by omega)
          have hcell := walk_cell HC.out i hi0 (by omega)
          obtain ⟨hy0, hy1⟩ := HRB.out (i + 1) (by omega) (by omega)
          have HRD := Aside0.mk (rd_drop rest kk i.toNat (by omega) (by omega))
          have e1 : ((i.toNat + 1 : Nat) : Int) = i + 1 := by omega
          have HE1 := Aside0.mk e1
          rw [← HI2.out.2.2] at hN0 hN1
          generalize hy : rd rest (i + 1) = y at hcell hy0 hy1
          have HY := Aside0.mk hy
          have HOR := Aside0.mk (or_key x2 y hN0 hN1 hy0 hy1)
          clear hy e1
          go_wp2
          go_round
          case rel =>
            have h1 := HI2.out
            have h2 := HRD.out.2
            have h3 := HE1.out
            refine ⟨x2 * 256 + y, i + 1, by rw [HOR.out], rfl, ⟨by omega, by omega, ?_⟩⟩
            have e4 : (i + 1).toNat = i.toNat + 1 := by omega
            have h5 : i.toNat < ((rest.drop 1).take kk).length := by rw [HRD.out.1]; omega
            rw [e4, List.take_succ_eq_append_getElem h5, valF_snoc, ← h1.2.2]
            rw [List.getElem?_eq_getElem h5, h3, HY.out] at h2
            rw [show ((rest.drop 1).take kk)[i.toNat] = y from h2]
            omega
          case measure => simp [intOf]; omega
        · have c2b0 : decide (i < (kk : Int)) = false := decide_eq_false c2
          have HC2 := Aside0.mk c2
          clear c2
          go_wp2
          go_ret3
          have h1 := HI2.out
          have h2 := HC2.out
          have hl : (((rest.drop 1).take kk)).length ≤ i.toNat := by rw [List.length_take]; omega
          rw [h1.2.2, List.take_of_length_le hl]
          exact ⟨by simp, rfl⟩
  · have hk0 : kk = 0 := by omega
    subst hk0
    have ez : valF ((rest.drop 1).take 0) = 0 := rfl
    rw [ez]
    clear h3 h4 h5 HV HRB HC
    have z1 : ((0 : Nat) : Int) = 0 := rfl
    rw [z1] at hx0 hd hd2 ⊢
    have hne : rest ≠ [] := by intro h; rw [h] at h0; exact absurd h0 (by decide)
    by_cases hc1 : c = 1
    · subst hc1
      go_enter Tryd.func63, Tryd.ntmps63
      go_wp2
      go_loop [2, 63] (fun v2 v63 => v2 = .int .i64 0 ∧ v63 = .int .i64 0) (fun _ _ => 0)
      case atStart => exact ⟨rfl, rfl⟩
      case round =>
        obtain ⟨rfl, rfl⟩ := hrel
        go_wp2
        go_ret3
        exact ⟨by simp, rfl⟩
    · have hc2 : (1 : Int) < (c : Int) := by omega
      go_enter Tryd.func63, Tryd.ntmps63
      go_wp2
      go_loop [2, 63] (fun v2 v63 => v2 = .int .i64 0 ∧ v63 = .int .i64 0) (fun _ _ => 0)
      case atStart => exact ⟨rfl, rfl⟩
      case round =>
        obtain ⟨rfl, rfl⟩ := hrel
        go_wp2
        go_ret3
        exact ⟨by simp, rfl⟩

end Go.Proofs.YtmokngiokdffdaaDoor.P
