-- Sx: the texts Sa, Sb, Sc, Sd, one behind the other (merge.py)
import Derived.Test.YtmokngiokdffdaaDoorRx
import Derived.Deep.RegionHeld3
import Derived.Test.YtmokngiokdffdaaDoorPd
import Derived.Deep.Cut
import Derived.Test.YtmokngiokdffdaaDoorWq
/-
  The reference's reader: number.
-/
namespace Go.Proofs.YtmokngiokdffdaaDoor.P
open Go.RowKit Go.Proofs.YtmokngiokdffdaaDoorW.PrintWords Go.Proofs.YtmokngiokdffdaaDoorW.PrintLast Go.Proofs.YtmokngiokdffdaaDoorW.PrintMore
set_option linter.unusedVariables false

/-- A reader of the reference at block g: all its bytes, its place, the first error. -/
structure RsP (w0 W : World) (g : Nat) (l : List Int) (n : Nat) (e : Int) : Prop where
  blk : ∃ A c, W.heap[g]? = some (.cells #[.slice A l.length c, .int .i64 (n : Int), .int .i64 e] 64 (0, 0)) ∧ l.length ≤ c ∧ Kd.C (Kd.int .u8) w0 A l.length l
  far : w0.heap.size ≤ g
  below : Below w0.heap.size w0 W
  byte : ∀ x ∈ l, 0 ≤ x ∧ x < 256
  le : n ≤ l.length
  len : l.length < 1000000

theorem RsP.grow {w0 w w' : World} {g : Nat} {l : List Int} {n : Nat} {e : Int} (h : RsP w0 w g l n e) (hb : Below w.heap.size w w') : RsP w0 w' g l n e := by
  obtain ⟨A, c, hb0, hc, hC⟩ := h.blk
  exact ⟨⟨A, c, (hb.block g (blk_lt hb0)).trans hb0, hc, hC⟩, h.far, below_step h.below hb, h.byte, h.le, h.len⟩
theorem RsP.drewN {w0 w : World} {g : Nat} {l : List Int} {n : Nat} {e : Int} (h : RsP w0 w g l n e) (m : Nat) : RsP w0 (w.drewN m) g l n e := h.grow (pw_below_drewN (Below.refl _ _) m)
theorem RsP.drew {w0 w : World} {g : Nat} {l : List Int} {n : Nat} {e : Int} (h : RsP w0 w g l n e) : RsP w0 w.drew g l n e := h.drewN 1
theorem RsP.store {w0 w : World} {g : Nat} {l : List Int} {n : Nat} {e : Int} (h : RsP w0 w g l n e) (k j : Nat) (v : Value) (hk : g ≠ k) (hf : w0.heap.size ≤ k) : RsP w0 (w.setCell ⟨k, j, none⟩ v) g l n e := by
  obtain ⟨A, c, hb0, hc, hC⟩ := h.blk
  exact ⟨⟨A, c, blk_far hb0 hk v, hc, hC⟩, h.far, h.below.setCell (p := ⟨k, j, none⟩) hf _, h.byte, h.le, h.len⟩
theorem RsP.lt {w0 w : World} {g : Nat} {l : List Int} {n : Nat} {e : Int} (h : RsP w0 w g l n e) : g < w.heap.size := by
  obtain ⟨A, c, hb0, hc, hC⟩ := h.blk
  exact blk_lt hb0

set_option maxRecDepth 100000 in
set_option maxHeartbeats 8000000 in
theorem RN_nil (w0 w : World) (g : Nat) (l : List Int) (e : Int) (hI : RsP w0 w g l l.length e) :
    Calls Tryd.prog 66 #[.pointer (some ⟨g, 0, none⟩)] w fun en w' => en = .returned (.tuple #[.int .i64 0, .int .i64 0, .int .i64 10]) ∧ Drawn0 w w' := by
  obtain ⟨A, c, hb, hc, hC⟩ := hI.blk
  have q0 : w.cell? ⟨g, 0, none⟩ = some (.slice A l.length c) := (blk_cell hb 0).trans rfl
  have q1 : w.cell? ⟨g, 1, none⟩ = some (.int .i64 (l.length : Int)) := (blk_cell hb 1).trans rfl
  have hn1 : (l.length : Int) ≤ (c : Int) := by omega
  clear hb hI hC
  by_cases hcap : c = l.length
  · subst hcap
    go_enter Tryd.func66, Tryd.ntmps66
    go_wp2_with fail
    go_region_held3 (fun w' => w'.cell? ⟨g, 0, none⟩ = some (.slice A l.length l.length) ∧ w'.cell? ⟨g, 1, none⟩ = some (.int .i64 (l.length : Int))) (first | exact ⟨q0, q1⟩ | go_keep) (fail)
    go_wp2
    go_ret3
    exact ⟨rfl, by repeat (first | exact Drawn0.refl _ | apply Drawn0.step)⟩
  · go_enter Tryd.func66, Tryd.ntmps66
    go_wp2_with fail
    go_region_held3 (fun w' => w'.cell? ⟨g, 0, none⟩ = some (.slice A l.length c) ∧ w'.cell? ⟨g, 1, none⟩ = some (.int .i64 (l.length : Int))) (first | exact ⟨q0, q1⟩ | go_keep) (fail)
    go_wp2
    go_ret3
    exact ⟨rfl, by repeat (first | exact Drawn0.refl _ | apply Drawn0.step)⟩

set_option maxRecDepth 100000 in
set_option maxHeartbeats 8000000 in
theorem RN_pos (w0 w : World) (g : Nat) (l : List Int) (n : Nat) (e : Int) (hI : RsP w0 w g l n e) (hn : n < l.length) (rest : List Int) (hrest : l.drop n = rest) :
    Calls Tryd.prog 66 #[.pointer (some ⟨g, 0, none⟩)] w fun en w' => en = .returned (.tuple #[.int .i64 (numF rest).1, .int .i64 (numF rest).2.1, .int .i64 (numF rest).2.2]) ∧ Drawn0 w w' := by
  obtain ⟨A, c, hb, hc, hC0⟩ := hI.blk
  obtain ⟨ad, hA, _⟩ := Kd.at_int hC0 0 (by omega) (by omega)
  subst hA
  have hC := C_drop (Kd.C_below hC0 hI.below) (Nat.le_of_lt hn)
  have q0 : w.cell? ⟨g, 0, none⟩ = some (.slice (some ad) l.length c) := (blk_cell hb 0).trans rfl
  have q1 : w.cell? ⟨g, 1, none⟩ = some (.int .i64 (n : Int)) := (blk_cell hb 1).trans rfl
  have hbyte : ∀ x ∈ l.drop n, 0 ≤ x ∧ x < 256 := fun x hx => hI.byte x (List.mem_of_mem_drop hx)
  have hlen := hI.len
  have hn1 : (n : Int) ≤ (c : Int) := by omega
  have hn2 : (n : Int) ≤ (l.length : Int) := by omega
  have hcap : ¬ c = n := by omega
  have hrl : (l.drop n).length = l.length - n := List.length_drop
  rw [hrest] at hC hbyte hrl
  have HC := Aside0.mk hC
  have HBY := Aside0.mk hbyte
  have HRL := Aside0.mk hrl
  clear hb hI hC0 hC hbyte hrl hrest
  go_enter Tryd.func66, Tryd.ntmps66
  go_wp2_with fail
  go_region_held3 (fun w' => w'.cell? ⟨g, 0, none⟩ = some (.slice (some ad) l.length c) ∧ w'.cell? ⟨g, 1, none⟩ = some (.int .i64 (n : Int))) (first | exact ⟨q0, q1⟩ | go_keep) (fail)
  rw [← HRL.out]
  rename_i hHeld
  have HDD := Aside0.mk (⟨1, rfl⟩ : Drawn0 w w.drew)
  have hC2 : Kd.C (Kd.int .u8) w.drew (some (ad.add n)) rest.length rest := Kd.C_drew HC.out
  have h0 : 0 < rest.length := by rw [HRL.out]; omega
  have hmx : rest.length < 1000000 := by rw [HRL.out]; omega
  have hcc : rest.length ≤ c - n := by rw [HRL.out]; omega
  clear hHeld HC HRL q0 q1 hn1 hn2 hcap hn hlen hc
  generalize ad.add n = a2 at hC2 ⊢
  generalize c - n = c2 at hcc ⊢
  generalize w.drew = W at hC2 HDD ⊢
  have hl0 : ((rest.length : Int) == 0) = false := beq_eq_false_iff_ne.mpr (by omega)
  obtain ⟨ad', hA', hx0⟩ := Kd.at_int hC2 0 (by omega) (by omega)
  cases hA'
  have e1 : (0 : Int).toNat = 0 := rfl
  rw [e1, add_zero'] at hx0
  obtain ⟨hb1, hb2⟩ := rd_byte HBY.out 0 (by omega) (by omega)
  have h5 : 1 < rest.length → W.cell? ⟨a2.block, a2.off + 1, none⟩ = some (.int .u8 (rd rest 1)) ∧ 0 ≤ rd rest 1 ∧ rd rest 1 < 256 := fun h => by
    obtain ⟨ad', hA', hx1⟩ := Kd.at_int hC2 1 (by omega) (by omega)
    cases hA'
    have hbd := rd_byte HBY.out 1 (by omega) (by omega)
    exact ⟨hx1, hbd.1, hbd.2⟩
  have HRB := Aside0.mk (rd_byte HBY.out)
  have HC := Aside0.mk hC2
  clear hC2 e1
  obtain ⟨kk, hkk⟩ : ∃ kk : Nat, rd rest 0 = (kk : Int) := ⟨(rd rest 0).toNat, by omega⟩
  rw [hkk] at hx0 hb1 hb2
  have HKK := Aside0.mk hkk
  clear hkk
  by_cases h1 : 8 < (kk : Int)
  · have HN : Aside0 (numF rest = (0, 0, 11)) := Aside0.mk (by unfold numF; rw [if_neg (by omega), if_pos (by rw [HKK.out]; exact h1)])
    clear h5
    go_wp2
    go_ret3
    rw [HN.out]
    exact ⟨rfl, HDD.out⟩
  have hd : decide (8 < (kk : Int)) = false := decide_eq_false h1
  by_cases h2 : (rest.length : Int) ≤ (kk : Int)
  · have HN : Aside0 (numF rest = (0, 0, 10)) := Aside0.mk (by unfold numF; rw [if_neg (by omega), if_neg (by rw [HKK.out]; exact h1), if_pos (by rw [HKK.out]; exact h2)])
    have hd2 : decide ((rest.length : Int) < 1 + (kk : Int)) = true := decide_eq_true (by omega)
    clear h5 h1 h2
    go_wp2
    go_ret3
    rw [HN.out]
    exact ⟨rfl, HDD.out⟩
  have hd2 : decide ((rest.length : Int) < 1 + (kk : Int)) = false := decide_eq_false (by omega)
  by_cases h3 : 0 < (kk : Int) ∧ rd rest 1 = 0
  · have HN : Aside0 (numF rest = (0, 0, 11)) := Aside0.mk (by unfold numF; rw [if_neg (by omega), if_neg (by rw [HKK.out]; exact h1), if_neg (by rw [HKK.out]; exact h2), if_pos (by rw [HKK.out]; exact h3)])
    obtain ⟨q1, hb3, hb4⟩ := h5 (by omega)
    rw [h3.2] at q1
    have hd3 : decide (0 < (kk : Int)) = true := decide_eq_true h3.1
    have hd3' : decide (0 < kk) = true := decide_eq_true (by omega)
    have hd3p : 0 < kk := by omega
    have hl1 : 1 < (rest.length : Int) := by omega
    clear h5 h1 h2 h3 hb3 hb4
    go_wp2
    go_ret3
    rw [HN.out]
    exact ⟨rfl, HDD.out⟩
  by_cases h4 : (kk : Int) = 8 ∧ 127 < rd rest 1
  · have HN : Aside0 (numF rest = (0, 0, 11)) := Aside0.mk (by unfold numF; rw [if_neg (by omega), if_neg (by rw [HKK.out]; exact h1), if_neg (by rw [HKK.out]; exact h2), if_neg (by rw [HKK.out]; exact h3), if_pos (by rw [HKK.out]; exact h4)])
    obtain ⟨q1, hb3, hb4⟩ := h5 (by omega)
    have h6 := h4.1
    have h7 := h4.2
    have h8 : rd rest 1 ≠ 0 := by omega
    have hk8 : kk = 8 := by omega
    subst hk8
    have hl1 : 1 < (rest.length : Int) := by omega
    generalize rd rest 1 = x1 at q1 hb3 hb4 h7 h8
    have hd4 : (x1 == 0) = false := beq_eq_false_iff_ne.mpr h8
    have hd9 : decide (127 < x1) = true := decide_eq_true h7
    have hd2b : decide ((rest.length : Int) < 9) = false := decide_eq_false (by omega)
    clear h5 h1 h2 h3 h4 h6 h8
    have e8 : ((8 : Nat) : Int) = 8 := rfl
    rw [e8] at hx0 hd hd2 hb1 hb2
    go_wp2
    go_ret3
    rw [HN.out]
    exact ⟨rfl, HDD.out⟩
  have HN : Aside0 (numF rest = (valF ((rest.drop 1).take kk), 1 + (kk : Int), 0)) := Aside0.mk (by unfold numF; rw [if_neg (by omega), if_neg (by rw [HKK.out]; exact h1), if_neg (by rw [HKK.out]; exact h2), if_neg (by rw [HKK.out]; exact h3), if_neg (by rw [HKK.out]; exact h4), HKK.out, Int.toNat_natCast])
  have hbyte : ∀ x ∈ (rest.drop 1).take kk, 0 ≤ x ∧ x < 256 := fun x hx => HBY.out x (List.mem_of_mem_drop (List.mem_of_mem_take hx))
  have hroom : ∀ i, i < kk → 0 ≤ valF (((rest.drop 1).take kk).take i) ∧ valF (((rest.drop 1).take kk).take i) * 256 < 9223372036854775808 := by
    intro i hi
    have hl := (rd_drop rest kk i hi (by omega)).1
    refine val_room _ hbyte (by omega) (fun h8 => ?_) i (by omega)
    have hz := (rd_drop rest kk 0 (by omega) (by omega)).2
    rw [List.getD_eq_getElem?_getD, hz]
    have e : ((0 + 1 : Nat) : Int) = 1 := rfl
    rw [e]
    by_cases h6 : 127 < rd rest 1
    · exact absurd ⟨by omega, h6⟩ h4
    · omega
  have HV := Aside0.mk hroom
  clear hbyte hroom
  have hkk8 : kk ≤ 8 := by omega
  have hkl : kk < rest.length := by omega
  by_cases hx : 0 < kk
  · have hd3 : decide (0 < (kk : Int)) = true := decide_eq_true (by omega)
    have hd3' : decide (0 < kk) = true := decide_eq_true hx
    obtain ⟨q1, hb3, hb4⟩ := h5 (by omega)
    have hn1 : rd rest 1 ≠ 0 := fun h => h3 ⟨by omega, h⟩
    have hd4 : (rd rest 1 == 0) = false := beq_eq_false_iff_ne.mpr hn1
    have hl1 : 1 < (rest.length : Int) := by omega
    generalize rd rest 1 = x1 at q1 hb3 hb4 hd4 h4
    clear h5 h3 hn1 h1 h2
    by_cases hx8 : (kk : Int) = 8
    · have hd8 : ((kk : Int) == 8) = true := beq_iff_eq.mpr hx8
      have hd9 : decide (127 < x1) = false := decide_eq_false (fun h => h4 ⟨hx8, h⟩)
      clear h4 hx8
      go_wp2
      go_loop [7, 8] (fun v7 v8 => ∃ (x i : Int), v7 = .int .i64 x ∧ v8 = .int .i64 i ∧ Aside0 (1 ≤ i ∧ i ≤ (kk : Int) + 1 ∧ x = valF (((rest.drop 1).take kk).take (i - 1).toNat))) (fun _ v8 => kk + 1 - (intOf v8).toNat)
      case atStart => exact ⟨0, 1, rfl, rfl, ⟨Int.le_refl _, by omega, rfl⟩⟩
      case round =>
        obtain ⟨x, i, rfl, rfl, HI2⟩ := hrel
        by_cases c2 : i ≤ (kk : Int)
        · have c2b0 : decide (i ≤ (kk : Int)) = true := decide_eq_true c2
          have hi0 := HI2.out.1
          have hil : i < (rest.length : Int) := by omega
          obtain ⟨hN0, hN1⟩ := HV.out (i - 1).toNat (by omega)
          obtain ⟨ad', hA', hcell⟩ := Kd.at_int HC.out i (by omega) (by omega)
          cases hA'
          obtain ⟨hy0, hy1⟩ := HRB.out i (by omega) (by omega)
          have HRD := Aside0.mk (rd_drop rest kk (i - 1).toNat (by omega) (by omega))
          have e1 : (((i - 1).toNat + 1 : Nat) : Int) = i := by omega
          have HE1 := Aside0.mk e1
          rw [← HI2.out.2.2] at hN0 hN1
          generalize hy : rd rest i = y at hcell hy0 hy1
          have HY := Aside0.mk hy
          have hN2 : 256 * x + y < 9223372036854775808 := by omega
          clear hy e1
          go_wp2
          go_round
          case rel =>
            have h1 := HI2.out
            have h2 := HRD.out.2
            have h3 := HE1.out
            refine ⟨256 * x + y, i + 1, rfl, rfl, ⟨by omega, by omega, ?_⟩⟩
            have e4 : (i + 1 - 1).toNat = (i - 1).toNat + 1 := by omega
            have h5 : (i - 1).toNat < ((rest.drop 1).take kk).length := by rw [HRD.out.1]; omega
            rw [e4, List.take_succ_eq_append_getElem h5, valF_snoc, ← h1.2.2]
            rw [List.getElem?_eq_getElem h5, h3, HY.out] at h2
            rw [show ((rest.drop 1).take kk)[(i - 1).toNat] = y from h2]
          case measure => simp [intOf]; omega
        · have c2b0 : decide (i ≤ (kk : Int)) = false := decide_eq_false c2
          have HC2 := Aside0.mk c2
          clear c2
          go_wp2
          go_ret3
          have h1 := HI2.out
          have h2 := HC2.out
          have hl : (((rest.drop 1).take kk)).length ≤ (i - 1).toNat := by rw [List.length_take]; omega
          rw [HN.out, h1.2.2, List.take_of_length_le hl]
          exact ⟨by simp, HDD.out⟩
    · have hd8 : ((kk : Int) == 8) = false := beq_eq_false_iff_ne.mpr hx8
      clear h4 hx8
      go_wp2
      go_loop [7, 8] (fun v7 v8 => ∃ (x i : Int), v7 = .int .i64 x ∧ v8 = .int .i64 i ∧ Aside0 (1 ≤ i ∧ i ≤ (kk : Int) + 1 ∧ x = valF (((rest.drop 1).take kk).take (i - 1).toNat))) (fun _ v8 => kk + 1 - (intOf v8).toNat)
      case atStart => exact ⟨0, 1, rfl, rfl, ⟨Int.le_refl _, by omega, rfl⟩⟩
      case round =>
        obtain ⟨x, i, rfl, rfl, HI2⟩ := hrel
        by_cases c2 : i ≤ (kk : Int)
        · have c2b0 : decide (i ≤ (kk : Int)) = true := decide_eq_true c2
          have hi0 := HI2.out.1
          have hil : i < (rest.length : Int) := by omega
          obtain ⟨hN0, hN1⟩ := HV.out (i - 1).toNat (by omega)
          obtain ⟨ad', hA', hcell⟩ := Kd.at_int HC.out i (by omega) (by omega)
          cases hA'
          obtain ⟨hy0, hy1⟩ := HRB.out i (by omega) (by omega)
          have HRD := Aside0.mk (rd_drop rest kk (i - 1).toNat (by omega) (by omega))
          have e1 : (((i - 1).toNat + 1 : Nat) : Int) = i := by omega
          have HE1 := Aside0.mk e1
          rw [← HI2.out.2.2] at hN0 hN1
          generalize hy : rd rest i = y at hcell hy0 hy1
          have HY := Aside0.mk hy
          have hN2 : 256 * x + y < 9223372036854775808 := by omega
          clear hy e1
          go_wp2
          go_round
          case rel =>
            have h1 := HI2.out
            have h2 := HRD.out.2
            have h3 := HE1.out
            refine ⟨256 * x + y, i + 1, rfl, rfl, ⟨by omega, by omega, ?_⟩⟩
            have e4 : (i + 1 - 1).toNat = (i - 1).toNat + 1 := by omega
            have h5 : (i - 1).toNat < ((rest.drop 1).take kk).length := by rw [HRD.out.1]; omega
            rw [e4, List.take_succ_eq_append_getElem h5, valF_snoc, ← h1.2.2]
            rw [List.getElem?_eq_getElem h5, h3, HY.out] at h2
            rw [show ((rest.drop 1).take kk)[(i - 1).toNat] = y from h2]
          case measure => simp [intOf]; omega
        · have c2b0 : decide (i ≤ (kk : Int)) = false := decide_eq_false c2
          have HC2 := Aside0.mk c2
          clear c2
          go_wp2
          go_ret3
          have h1 := HI2.out
          have h2 := HC2.out
          have hl : (((rest.drop 1).take kk)).length ≤ (i - 1).toNat := by rw [List.length_take]; omega
          rw [HN.out, h1.2.2, List.take_of_length_le hl]
          exact ⟨by simp, HDD.out⟩
  · have hk0 : kk = 0 := by omega
    subst hk0
    clear h1 h2 h3 h4 h5 HV hkk8 hx
    have z1 : ((0 : Nat) : Int) = 0 := rfl
    rw [z1] at hx0 hd hd2
    have ez : valF ((rest.drop 1).take 0) = 0 := rfl
    rw [ez] at HN
    go_wp2
    go_loop [7, 8] (fun v7 v8 => v7 = .int .i64 0 ∧ v8 = .int .i64 1) (fun _ _ => 0)
    case atStart => exact ⟨rfl, rfl⟩
    case round =>
      obtain ⟨rfl, rfl⟩ := hrel
      go_wp2
      go_ret3
      rw [HN.out]
      exact ⟨rfl, HDD.out⟩

theorem RN_any (w0 w : World) (g : Nat) (l : List Int) (n : Nat) (e : Int) (hI : RsP w0 w g l n e) :
    Calls Tryd.prog 66 #[.pointer (some ⟨g, 0, none⟩)] w fun en w' => en = .returned (.tuple #[.int .i64 (numF (l.drop n)).1, .int .i64 (numF (l.drop n)).2.1, .int .i64 (numF (l.drop n)).2.2]) ∧ Drawn0 w w' := by
  by_cases hn : n < l.length
  · exact RN_pos w0 w g l n e hI hn _ rfl
  · have : n = l.length := by have := hI.le; omega
    subst this
    have e2 : l.drop l.length = [] := by simp
    rw [e2]
    exact RN_nil w0 w g l e hI

/-- A number that the reference reads: what it is, the place, the error from then on. -/
def numR (l : List Int) (n : Nat) (e most : Int) : Int × Nat × Int :=
  if e ≠ 0 then (0, n, e) else
  if (numF (l.drop n)).2.2 ≠ 0 then (0, n, (numF (l.drop n)).2.2) else
  if most < (numF (l.drop n)).1 then (0, n, 3) else ((numF (l.drop n)).1, n + (numF (l.drop n)).2.1.toNat, 0)

theorem RsP.set1 {w0 w : World} {g : Nat} {l : List Int} {n : Nat} {e : Int} (h : RsP w0 w g l n e) (k : Nat) (hk : k ≤ l.length) : RsP w0 (w.setCell ⟨g, 1, none⟩ (.int .i64 (k : Int))) g l k e := by
  obtain ⟨A, c, hb0, hc, hC⟩ := h.blk
  exact ⟨⟨A, c, by simpa using blk_set hb0 1 (.int .i64 (k : Int)), hc, hC⟩, h.far, h.below.setCell (p := ⟨g, 1, none⟩) h.far _, h.byte, hk, h.len⟩
theorem RsP.set2 {w0 w : World} {g : Nat} {l : List Int} {n : Nat} {e : Int} (h : RsP w0 w g l n e) (x : Int) : RsP w0 (w.setCell ⟨g, 2, none⟩ (.int .i64 x)) g l n x := by
  obtain ⟨A, c, hb0, hc, hC⟩ := h.blk
  exact ⟨⟨A, c, by simpa using blk_set hb0 2 (.int .i64 x), hc, hC⟩, h.far, h.below.setCell (p := ⟨g, 2, none⟩) h.far _, h.byte, h.le, h.len⟩
theorem Kp.drewN (g : Nat) (w : World) (m : Nat) : Kp g w (w.drewN m) := Kp.below (pw_below_drewN (Below.refl _ _) m)

set_option maxRecDepth 100000 in
set_option maxHeartbeats 8000000 in
theorem RNum_any (w0 w : World) (g : Nat) (l : List Int) (n : Nat) (e most : Int) (hI : RsP w0 w g l n e) :
    Calls Tryd.prog 57 #[.pointer (some ⟨g, 0, none⟩), .int .i64 most] w fun en w' => en = .returned (.int .i64 (numR l n e most).1) ∧ RsP w0 w' g l (numR l n e most).2.1 (numR l n e most).2.2 ∧ Kp g w w' := by
  obtain ⟨A, c, hb, hc, hC⟩ := hI.blk
  have q1 : w.cell? ⟨g, 1, none⟩ = some (.int .i64 (n : Int)) := (blk_cell hb 1).trans rfl
  have q2 : w.cell? ⟨g, 2, none⟩ = some (.int .i64 e) := (blk_cell hb 2).trans rfl
  have f1 := blk_frozen hb 1
  have f2 := blk_frozen hb 2
  have HI := Aside0.mk hI
  by_cases he : e = 0
  · subst he
    have HN := Aside0.mk (RN_any w0 w g l n 0 hI)
    have hz := numF_size (rest := l.drop n) (fun x hx => hI.byte x (List.mem_of_mem_drop hx))
    have hln := hI.le
    have hlen := hI.len
    have hld : (l.drop n).length = l.length - n := List.length_drop
    have hs : numR l n 0 most = if (numF (l.drop n)).2.2 ≠ 0 then (0, n, (numF (l.drop n)).2.2) else if most < (numF (l.drop n)).1 then (0, n, 3) else ((numF (l.drop n)).1, n + (numF (l.drop n)).2.1.toNat, 0) := by
      unfold numR; rw [if_neg (fun h => h rfl)]
    rw [hs]
    clear hs hb hC hI
    rcases hq : numF (l.drop n) with ⟨x, size, er⟩
    rw [hq] at hz
    have HNQ := Aside0.mk hq
    clear hq
    simp only at hz ⊢
    by_cases her : er = 0
    · have hz2 := hz her
      subst her
      rw [if_neg (fun h => h rfl)]
      obtain ⟨k, rfl⟩ : ∃ k : Nat, size = (k : Int) := ⟨size.toNat, by omega⟩
      have hk1 : n + k ≤ l.length := by omega
      by_cases hm : most < x
      · have hd : decide (most < x) = true := decide_eq_true hm
        rw [if_pos hm]
        clear hm hz hz2 hld
        go_enter Tryd.func57, Tryd.ntmps57
        go_wp2_with (first | (go_at_call 66; refine HN.out.mono ?_; rintro en w' ⟨rfl, ⟨mm, rfl⟩⟩; simp only [HNQ.out]))
        go_ret
        exact ⟨rfl, (HI.out.drewN _).set2 3, (Kp.drewN g w _).trans (Kp.setCell g 2 _ _)⟩
      · have hd : decide (most < x) = false := decide_eq_false hm
        rw [if_neg hm, Int.toNat_natCast]
        clear hm hz hz2 hld
        go_enter Tryd.func57, Tryd.ntmps57
        go_wp2_with (first | (go_at_call 66; refine HN.out.mono ?_; rintro en w' ⟨rfl, ⟨mm, rfl⟩⟩; simp only [HNQ.out]))
        go_ret
        have h1 := (HI.out.drewN mm).set1 (n + k) hk1
        rw [Int.natCast_add] at h1
        exact ⟨rfl, h1, (Kp.drewN g w _).trans (Kp.setCell g 1 _ _)⟩
    · have h1 : (er == 0) = false := beq_eq_false_iff_ne.mpr her
      have h2 : (er != 0) = true := by simp [her]
      rw [if_pos her]
      clear her hz hld
      go_enter Tryd.func57, Tryd.ntmps57
      go_wp2_with (first | (go_at_call 66; refine HN.out.mono ?_; rintro en w' ⟨rfl, ⟨mm, rfl⟩⟩; simp only [HNQ.out]))
      go_ret
      exact ⟨rfl, (HI.out.drewN _).set2 er, (Kp.drewN g w _).trans (Kp.setCell g 2 _ _)⟩
  · have hn : (e != 0) = true := by simp [he]
    have hs : numR l n e most = (0, n, e) := by unfold numR; rw [if_pos he]
    rw [hs]
    clear hI he hs hb hC
    go_enter Tryd.func57, Tryd.ntmps57
    go_wp2
    go_ret
    exact ⟨rfl, HI.out, Kp.refl _ _⟩

end Go.Proofs.YtmokngiokdffdaaDoor.P

/-
  The reference's Get.
-/
namespace Go.Proofs.YtmokngiokdffdaaDoor.P
open Go.RowKit Go.Proofs.YtmokngiokdffdaaDoorW.PrintWords Go.Proofs.YtmokngiokdffdaaDoorW.PrintLast Go.Proofs.YtmokngiokdffdaaDoorW.PrintMore
set_option linter.unusedVariables false

set_option maxRecDepth 100000 in
set_option maxHeartbeats 8000000 in
theorem RGet_any (w0 w : World) (g : Nat) (l : List Int) (n : Nat) (e : Int) (hI : RsP w0 w g l n e) (B : Int) (n1 : Nat) (e1 : Int) (hN1 : numR l n e 1099511627777 = (B, n1, e1))
    (x2 : Int) (n2 : Nat) (e2 : Int) (hN2 : numR l n1 e1 4294967295 = (x2, n2, e2)) (x3 : Int) (n3 : Nat) (e3 : Int) (hN3 : numR l n2 e2 4294967295 = (x3, n3, e3))
    (hx2 : 0 ≤ x2) (hx2' : x2 < 4294967296) (hx3 : 0 ≤ x3) (hx3' : x3 < 4294967296)
    (k : Nat) (gd : Bool) (hG : raddleref09_Good.f k B (x2 * 4294967296 + x3) = some gd) :
    Calls Tryd.prog 39 #[.pointer (some ⟨g, 0, none⟩)] w fun en w' => en = .returned (.agg #[.int .i64 (getR B (x2 * 4294967296 + x3) e3 gd).1, .int .u64 (getR B (x2 * 4294967296 + x3) e3 gd).2]) ∧ RsP w0 w' g l n3 e3 ∧ Kp g w w' := by
  have HG := Aside0.mk hG
  have HI := Aside0.mk (hI.grow (below_alloc (Below.refl w.heap.size w) (.cells #[.int .i64 0, .int .u64 0] 38)))
  have HL := Aside0.mk hI.lt
  have HF := Aside0.mk hI.far
  have HGR := Aside0.mk (World.alloc_heap_new w (.cells #[.int .i64 0, .int .u64 0] 38))
  have HK := Aside0.mk ((Kp.refl g w).alloc (.cells #[.int .i64 0, .int .u64 0] 38))
  have hu38 := Tryd.underlying38
  have H1 : Aside0 (∀ W, RsP w0 W g l n e → Calls Tryd.prog 57 #[.pointer (some ⟨g, 0, none⟩), .int .i64 1099511627777] W fun en w' => en = .returned (.int .i64 B) ∧ RsP w0 w' g l n1 e1 ∧ Kp g W w') :=
    Aside0.mk (fun W hW => (RNum_any w0 W g l n e 1099511627777 hW).mono (by intro en w' h; rw [hN1] at h; exact h))
  have H2 : Aside0 (∀ W, RsP w0 W g l n1 e1 → Calls Tryd.prog 57 #[.pointer (some ⟨g, 0, none⟩), .int .i64 4294967295] W fun en w' => en = .returned (.int .i64 x2) ∧ RsP w0 w' g l n2 e2 ∧ Kp g W w') :=
    Aside0.mk (fun W hW => (RNum_any w0 W g l n1 e1 4294967295 hW).mono (by intro en w' h; rw [hN2] at h; exact h))
  have H3 : Aside0 (∀ W, RsP w0 W g l n2 e2 → Calls Tryd.prog 57 #[.pointer (some ⟨g, 0, none⟩), .int .i64 4294967295] W fun en w' => en = .returned (.int .i64 x3) ∧ RsP w0 w' g l n3 e3 ∧ Kp g W w') :=
    Aside0.mk (fun W hW => (RNum_any w0 W g l n2 e2 4294967295 hW).mono (by intro en w' h; rw [hN3] at h; exact h))
  have tok1 := Aside0.mk trivial
  clear hN1 hN2 hN3 hI hG
  go_enter Tryd.func39, Tryd.ntmps39
  go_wp2_with fail
  refine (H1.out _ HI.out).mono ?_
  rintro en wA ⟨rfl, hI1, hK1⟩
  have HI1 := Aside0.mk hI1
  have HGR1 := Aside0.mk (hK1.blk HGR.out (Nat.ne_of_gt HL.out))
  have HK1 := Aside0.mk (HK.out.trans hK1)
  clear hI1 hK1 HI HGR HK H1
  go_wp2_with fail
  refine (H2.out _ HI1.out).mono ?_
  rintro en wB ⟨rfl, hI1, hK1⟩
  have HI := Aside0.mk hI1
  have HGR := Aside0.mk (hK1.blk HGR1.out (Nat.ne_of_gt HL.out))
  have HK := Aside0.mk (HK1.out.trans hK1)
  clear hI1 hK1 HI1 HGR1 HK1 H2
  go_wp2_with fail
  refine (H3.out _ HI.out).mono ?_
  rintro en wC ⟨rfl, hI1, hK1⟩
  have HI1 := Aside0.mk (hI1.grow (below_alloc (Below.refl wC.heap.size wC) (.cells #[.int .i64 B, .int .u64 (x2 * 4294967296 + x3)] 38)))
  have HGR1 := Aside0.mk (blk_alloc (hK1.blk HGR.out (Nat.ne_of_gt HL.out)) (.cells #[.int .i64 B, .int .u64 (x2 * 4294967296 + x3)] 38))
  have HGW := Aside0.mk (World.alloc_heap_new wC (.cells #[.int .i64 B, .int .u64 (x2 * 4294967296 + x3)] 38))
  have HK1 := Aside0.mk ((HK.out.trans hK1).alloc (.cells #[.int .i64 B, .int .u64 (x2 * 4294967296 + x3)] 38))
  have qe : (wC.alloc (.cells #[.int .i64 B, .int .u64 (x2 * 4294967296 + x3)] 38)).cell? ⟨g, 2, none⟩ = some (.int .i64 e3) := by
    obtain ⟨A, c, hb, _, _⟩ := HI1.out.blk
    exact (blk_cell hb 2).trans rfl
  clear hI1 hK1 HI HGR HK H3
  go_upto_region 5 with fail
  generalize hWW : (wC.alloc (.cells #[.int .i64 B, .int .u64 (x2 * 4294967296 + x3)] 38)) = W at HI1 HGR1 HGW HK1 qe ⊢
  clear hWW
  have p0 : W.cell? ⟨w.heap.size, 0, none⟩ = some (.int .i64 0) := (blk_cell HGR1.out 0).trans rfl
  have p1 : W.cell? ⟨w.heap.size, 1, none⟩ = some (.int .u64 0) := (blk_cell HGR1.out 1).trans rfl
  have f0 := blk_frozen HGR1.out 0
  have f1 := blk_frozen HGR1.out 1
  have q0 : W.cell? ⟨wC.heap.size, 0, none⟩ = some (.int .i64 B) := (blk_cell HGW.out 0).trans rfl
  have q1 : W.cell? ⟨wC.heap.size, 1, none⟩ = some (.int .u64 (x2 * 4294967296 + x3)) := (blk_cell HGW.out 1).trans rfl
  by_cases hee : e3 = 0
  · have hd : (e3 != 0) = false := by simp [hee]
    cases gd with
    | false =>
      have hr : getR B (x2 * 4294967296 + x3) e3 false = (0, 0) := by unfold getR; rw [if_neg (by simp)]
      have HRR := Aside0.mk hr
      clear hr hee
      go_wp2_with (first | (go_at_call 27; refine (raddleref09_Good.calls k B (x2 * 4294967296 + x3) false _ HG.out).mono ?_; rintro en w5 ⟨rfl, hbl⟩; have q0' := pw_cell_below hbl q0; have q1' := pw_cell_below hbl q1; have HI' := Aside0.mk (HI1.out.grow hbl); have HK' := Aside0.mk (HK1.out.trans (Kp.below hbl)); have HGR' := Aside0.mk ((hbl.block _ (blk_lt HGR1.out)).trans HGR1.out); clear q0 q1 p0 p1 f0 f1 qe hbl HI1 HK1 HGR1; have HI1 := HI'; have HK1 := HK'; have HGR1 := HGR'; clear HI' HK' HGR'; have f0 := blk_frozen HGR1.out 0; have f1 := blk_frozen HGR1.out 1; have p0 : w5.cell? ⟨w.heap.size, 0, none⟩ = some (.int .i64 0) := (blk_cell HGR1.out 0).trans rfl; have p1 : w5.cell? ⟨w.heap.size, 1, none⟩ = some (.int .u64 0) := (blk_cell HGR1.out 1).trans rfl))
      try simp only [Exit.inBlock, Exit.then]
      refine bodyPost_ret (results_cell_row rfl _ _ w.heap.size 38 #[.int .i64 0, .int .u64 0] (0, 0) _ rfl (by have := blk_set (blk_set HGR1.out 0 (.int .i64 0)) 1 (.int .u64 0); simpa using this) Tryd.underlying38 rfl (by kernel_rfl)) rfl ?_
      rw [HRR.out]
      exact ⟨rfl, (HI1.out.store _ _ _ (by have := HL.out; omega) (by have := HF.out; have := HL.out; omega)).store _ _ _ (by have := HL.out; omega) (by have := HF.out; have := HL.out; omega), (HK1.out.store _ (Nat.le_refl _)).store _ (Nat.le_refl _)⟩
    | true =>
      have hr : getR B (x2 * 4294967296 + x3) e3 true = (B, x2 * 4294967296 + x3) := by unfold getR; rw [if_pos ⟨hee, rfl⟩]
      have HRR := Aside0.mk hr
      clear hr hee
      go_wp2_with (first | (go_at_call 27; refine (raddleref09_Good.calls k B (x2 * 4294967296 + x3) true _ HG.out).mono ?_; rintro en w5 ⟨rfl, hbl⟩; have q0' := pw_cell_below hbl q0; have q1' := pw_cell_below hbl q1; have HI' := Aside0.mk (HI1.out.grow hbl); have HK' := Aside0.mk (HK1.out.trans (Kp.below hbl)); have HGR' := Aside0.mk ((hbl.block _ (blk_lt HGR1.out)).trans HGR1.out); clear q0 q1 p0 p1 f0 f1 qe hbl HI1 HK1 HGR1; have HI1 := HI'; have HK1 := HK'; have HGR1 := HGR'; clear HI' HK' HGR'; have f0 := blk_frozen HGR1.out 0; have f1 := blk_frozen HGR1.out 1; have p0 : w5.cell? ⟨w.heap.size, 0, none⟩ = some (.int .i64 0) := (blk_cell HGR1.out 0).trans rfl; have p1 : w5.cell? ⟨w.heap.size, 1, none⟩ = some (.int .u64 0) := (blk_cell HGR1.out 1).trans rfl))
      try simp only [Exit.inBlock, Exit.then]
      refine bodyPost_ret (results_cell_row rfl _ _ w.heap.size 38 #[.int .i64 B, .int .u64 (x2 * 4294967296 + x3)] (0, 0) _ rfl (by have := blk_set (blk_set HGR1.out 0 (.int .i64 B)) 1 (.int .u64 (x2 * 4294967296 + x3)); simpa using this) Tryd.underlying38 rfl (by kernel_rfl)) rfl ?_
      rw [HRR.out]
      exact ⟨rfl, (HI1.out.store _ _ _ (by have := HL.out; omega) (by have := HF.out; have := HL.out; omega)).store _ _ _ (by have := HL.out; omega) (by have := HF.out; have := HL.out; omega), (HK1.out.store _ (Nat.le_refl _)).store _ (Nat.le_refl _)⟩
  · have hd : (e3 != 0) = true := by simp [hee]
    have hr : getR B (x2 * 4294967296 + x3) e3 gd = (0, 0) := by unfold getR; rw [if_neg (fun h => hee h.1)]
    have HRR := Aside0.mk hr
    clear hr hee
    go_wp2
    try simp only [Exit.inBlock, Exit.then]
    refine bodyPost_ret (results_cell_row rfl _ _ w.heap.size 38 #[.int .i64 0, .int .u64 0] (0, 0) _ rfl (by have := blk_set (blk_set HGR1.out 0 (.int .i64 0)) 1 (.int .u64 0); simpa using this) Tryd.underlying38 rfl (by kernel_rfl)) rfl ?_
    rw [HRR.out]
    exact ⟨rfl, (HI1.out.store _ _ _ (by have := HL.out; omega) (by have := HF.out; have := HL.out; omega)).store _ _ _ (by have := HL.out; omega) (by have := HF.out; have := HL.out; omega), (HK1.out.store _ (Nat.le_refl _)).store _ (Nat.le_refl _)⟩

end Go.Proofs.YtmokngiokdffdaaDoor.P

/-
  Plain law: the two readers read the same window.
-/
namespace Go.Proofs.YtmokngiokdffdaaDoor.P
open Go.RowKit Go.Proofs.YtmokngiokdffdaaDoorW.PrintWords Go.Proofs.YtmokngiokdffdaaDoorW.PrintLast Go.Proofs.YtmokngiokdffdaaDoorW.PrintMore
set_option linter.unusedVariables false

theorem numS_numR (l rest : List Int) (n : Nat) (e most : Int) (hs : e = 0 → rest = l.drop n) :
    (numS rest e most).1 = (numR l n e most).1 ∧ (numS rest e most).2.2 = (numR l n e most).2.2 ∧ ((numR l n e most).2.2 = 0 → (numS rest e most).2.1 = l.drop (numR l n e most).2.1) := by
  unfold numS numR
  by_cases he : e = 0
  · have hr := hs he
    subst hr
    have a1 : ¬ (e ≠ 0) := fun h => h he
    simp only [if_neg a1]
    by_cases h1 : (numF (l.drop n)).2.2 = 0
    · have a2 : ¬ ((numF (l.drop n)).2.2 ≠ 0) := fun h => h h1
      simp only [if_neg a2]
      by_cases h2 : most < (numF (l.drop n)).1
      · simp only [if_pos h2]; exact ⟨trivial, trivial, fun h => absurd h (by decide)⟩
      · simp only [if_neg h2]; exact ⟨trivial, trivial, fun _ => by simp [List.drop_drop]⟩
    · have a2 : (numF (l.drop n)).2.2 ≠ 0 := h1
      simp only [if_pos a2]; exact ⟨trivial, trivial, fun h => absurd h h1⟩
  · have a1 : e ≠ 0 := he
    simp only [if_pos a1]; exact ⟨trivial, trivial, fun h => absurd h he⟩

theorem numF_nonneg {rest : List Int} (hb : ∀ x ∈ rest, 0 ≤ x ∧ x < 256) : 0 ≤ (numF rest).1 := by
  unfold numF
  split
  · exact Int.le_refl _
  split
  · exact Int.le_refl _
  split
  · exact Int.le_refl _
  split
  · exact Int.le_refl _
  split
  · exact Int.le_refl _
  exact (valF_lt _ (fun x hx => hb x (List.mem_of_mem_drop (List.mem_of_mem_take hx)))).1

theorem numR_range {l : List Int} (hb : ∀ x ∈ l, 0 ≤ x ∧ x < 256) (n : Nat) (e most : Int) (hm : 0 ≤ most) : 0 ≤ (numR l n e most).1 ∧ (numR l n e most).1 ≤ most := by
  unfold numR
  have h0 := numF_nonneg (rest := l.drop n) (fun x hx => hb x (List.mem_of_mem_drop hx))
  split
  · exact ⟨Int.le_refl _, hm⟩
  split
  · exact ⟨Int.le_refl _, hm⟩
  split
  · exact ⟨Int.le_refl _, hm⟩
  · exact ⟨h0, by simp only; omega⟩

/-- What both readers make of the bytes. -/
theorem reads_same (l : List Int) (hb : ∀ x ∈ l, 0 ≤ x ∧ x < 256) :
    ∃ (B : Int) (m : Nat) (x2 x3 : Int) (n1 n2 n3 : Nat) (e1 e2 e3 : Int) (r1 r3 : List Int),
      -9223372036854775808 ≤ B ∧ m < 2 ^ 64 ∧ 0 ≤ x2 ∧ x2 < 4294967296 ∧ 0 ≤ x3 ∧ x3 < 4294967296 ∧ (m : Int) = x2 * 4294967296 + x3 ∧
      numR l 0 0 1099511627777 = (B, n1, e1) ∧ numR l n1 e1 4294967295 = (x2, n2, e2) ∧ numR l n2 e2 4294967295 = (x3, n3, e3) ∧
      numS l 0 1099511627777 = (B, r1, e1) ∧ getK r1 e1 2 = ((m : Int), r3, e3) ∧ (e3 = 0 → r3 = l.drop n3) := by
  rcases h1 : numR l 0 0 1099511627777 with ⟨B, n1, e1⟩
  rcases h2 : numR l n1 e1 4294967295 with ⟨x2, n2, e2⟩
  rcases h3 : numR l n2 e2 4294967295 with ⟨x3, n3, e3⟩
  have s1 := numS_numR l l 0 0 1099511627777 (fun _ => by simp)
  have g1 := numR_range hb 0 0 1099511627777 (by decide)
  have g2 := numR_range hb n1 e1 4294967295 (by decide)
  have g3 := numR_range hb n2 e2 4294967295 (by decide)
  rw [h1] at s1 g1
  rw [h2] at g2
  rw [h3] at g3
  rcases k1 : numS l 0 1099511627777 with ⟨B', r1, e1'⟩
  rw [k1] at s1
  obtain ⟨rfl, rfl, s1⟩ := s1
  have s2 := numS_numR l r1 n1 e1' 4294967295 s1
  rw [h2] at s2
  rcases k2 : numS r1 e1' 4294967295 with ⟨x2', r2, e2'⟩
  rw [k2] at s2
  obtain ⟨rfl, rfl, s2⟩ := s2
  have s3 := numS_numR l r2 n2 e2' 4294967295 s2
  rw [h3] at s3
  rcases k3 : numS r2 e2' 4294967295 with ⟨x3', r3, e3'⟩
  rw [k3] at s3
  obtain ⟨rfl, rfl, s3⟩ := s3
  simp only at g1 g2 g3 s3
  obtain ⟨hi, rfl⟩ := Int.eq_ofNat_of_zero_le g2.1
  obtain ⟨lo, rfl⟩ := Int.eq_ofNat_of_zero_le g3.1
  exact ⟨B', hi * 4294967296 + lo, hi, lo, n1, n2, n3, e1', e2', e3', r1, r3, by omega, by omega, by omega, by omega, by omega, by omega, by omega, rfl, h2, h3, rfl, getK_two r1 e1' hi lo r2 r3 e2' e3' (by omega) (by omega) k2 k3, s3⟩

end Go.Proofs.YtmokngiokdffdaaDoor.P

/-
  Two readers side by side.
-/
namespace Go.Proofs.YtmokngiokdffdaaDoor.P
open Go.RowKit Go.Proofs.YtmokngiokdffdaaDoorW.PrintWords Go.Proofs.YtmokngiokdffdaaDoorW.PrintLast Go.Proofs.YtmokngiokdffdaaDoorW.PrintMore
set_option linter.unusedVariables false

set_option maxRecDepth 100000 in
set_option maxHeartbeats 8000000 in
theorem RRead2 (A0 : Option Addr) (c0 : Nat) (l0 : List Int) (w : World) (hr0 : Kd.C (Kd.int .u8) w A0 l0.length l0) (hl : l0.length < 1000000) (hby : ∀ x ∈ l0, 0 ≤ x ∧ x < 256) :
    Calls Tryd.prog 35 #[.slice A0 l0.length c0] w fun en w' => ∃ g w0, en = .returned (.pointer (some ⟨g, 0, none⟩)) ∧ RsP w0 w' g l0 0 0 ∧ Below w.heap.size w w0 := by
  have HB := Aside0.mk (Below.refl w.heap.size w)
  have HR0 := Aside0.mk hr0
  have HBY := Aside0.mk hby
  clear hr0 hby
  go_enter Tryd.func35, Tryd.ntmps35
  go_wp2_with (first
    | ((with_reducible refine gate_dst (N := 3) rfl ?_); refine Kd.R_lit (Kd.int .u8) _ 5 ?hg (N := 3) ?hd (xs := ([] : List Int)) (inner := []) (ok := fun _ => True) (okp := fun _ => True) ?hr ?hp (fun _ hk => hk) trivial (Below.refl _ _) (Nat.le_refl _) (by simp) ?_; (case hd => rfl); (case hg => rfl); (case hr => first | (go_simp; done) | (go_simp; rfl)); (case hp => exact (Reps.none _ _)); intro v3 w3 ho3 hb hg_ hnew_; clear hg_ hnew_; have HO := Aside0.mk (Kd.R_lower ho3 (below_size HB.out)); have HB' := Aside0.mk (below_step HB.out hb); clear HB ho3 hb; have HB := HB'; clear HB')
    | ((with_reducible refine gate_builtin (b := .append) (xs := #[.tmp 3, .tmp 4]) rfl ?_); at_builtin; refine Kd.R_append_rows (Kd.int .u8) (w0 := w) w.heap.size rfl (.tmp 3) (.tmp 4) 54 5 (.int .u8 0) 1 rfl Tryd.underlying54 info5 rfl (by decide) (by omega) v3 ([] : List Int) l0 _ _ _ (fun _ => True) (fun _ => False) rfl rfl ?aO ?aR (fun _ _ h => h) (fun _ h => h.elim) ?aF ?aB ?aS ?aL ?_; (case aR => exact (Kd.C_below HR0.out HB.out)); (case aB => exact HB.out); (case aF => exact (fun _ _ => trivial)); (case aO => exact HO.out); (case aS => exact (below_size HB.out)); (case aL => simp; omega); intro v5 w5 ho hb hg hat; obtain ⟨A5, c5, rfl, hc5, hC5⟩ := Kd.R_reads ho; have HC5 := Aside0.mk hC5; have HD5 := Aside0.mk hc5; have HB' := Aside0.mk hb; clear HB HO hC5 hc5 ho hb hg hat; have HB := HB'; clear HB'))
  go_ret
  exact ⟨w5.heap.size, w5, rfl, ⟨⟨A5, c5, World.alloc_heap_new _ _, HD5.out, HC5.out⟩, Nat.le_refl _, below_alloc (Below.refl _ _) _, HBY.out, Nat.zero_le _, hl⟩, HB.out⟩

set_option maxRecDepth 100000 in
set_option maxHeartbeats 8000000 in
theorem RLeft_any (w0 w : World) (g : Nat) (l : List Int) (n : Nat) (e : Int) (hI : RsP w0 w g l n e) :
    Calls Tryd.prog 42 #[.pointer (some ⟨g, 0, none⟩)] w fun en w' => en = .returned (.int .i64 (if e = 0 then ((l.drop n).length : Int) else 0)) ∧ Drawn0 w w' := by
  obtain ⟨A, c, hb, hc, hC⟩ := hI.blk
  have q0 : w.cell? ⟨g, 0, none⟩ = some (.slice A l.length c) := (blk_cell hb 0).trans rfl
  have q1 : w.cell? ⟨g, 1, none⟩ = some (.int .i64 (n : Int)) := (blk_cell hb 1).trans rfl
  have q2 : w.cell? ⟨g, 2, none⟩ = some (.int .i64 e) := (blk_cell hb 2).trans rfl
  have hle := hI.le
  have hlen := hI.len
  have hld : ((l.drop n).length : Int) = (l.length : Int) - (n : Int) := by rw [List.length_drop]; omega
  rw [hld]
  clear hb hI hC hld
  by_cases he : e = 0
  · rw [if_pos he]
    subst he
    go_enter Tryd.func42, Tryd.ntmps42
    go_wp2_with fail
    go_region_held3 (fun w' => w'.cell? ⟨g, 0, none⟩ = some (.slice A l.length c) ∧ w'.cell? ⟨g, 1, none⟩ = some (.int .i64 (n : Int)) ∧ w'.cell? ⟨g, 2, none⟩ = some (.int .i64 0)) (first | exact ⟨q0, q1, q2⟩ | go_keep) (fail)
    go_wp2
    go_ret
    have hw : IntKind.i64.wrap ((l.length : Int) - (n : Int)) = (l.length : Int) - (n : Int) := by rw [IntKind.wrap_i64]; omega
    exact ⟨by simp [hw], by repeat (first | exact Drawn0.refl _ | apply Drawn0.step)⟩
  · rw [if_neg he]
    have hn : (e != 0) = true := by simp [he]
    clear he
    go_enter Tryd.func42, Tryd.ntmps42
    go_wp2
    go_ret
    exact ⟨rfl, Drawn0.refl _⟩

def SameOs (a b : World) : Prop := b.os = a.os ∧ b.tape = a.tape ∧ b.output = a.output
theorem RdP.same {w0 W W' : World} {g g' : Nat} {r r' : List Int} {e e' : Int} (h : RdP w0 W g r e) (h' : RdP w0 W' g' r' e') : SameOs W W' := ⟨h'.below.os.trans h.below.os.symm, h'.below.tape.trans h.below.tape.symm, h'.below.output.trans h.below.output.symm⟩
theorem RsP.same {w0 W W' : World} {g g' : Nat} {r r' : List Int} {n n' : Nat} {e e' : Int} (h : RsP w0 W g r n e) (h' : RsP w0 W' g' r' n' e') : SameOs W W' := ⟨h'.below.os.trans h.below.os.symm, h'.below.tape.trans h.below.tape.symm, h'.below.output.trans h.below.output.symm⟩

/-- The program's reader, when the reference's has moved. -/
theorem RdP.other {w0 W W' : World} {g g2 : Nat} {r : List Int} {e : Int} (h : RdP w0 W g r e) (hk : Kp g2 W W') (hs : SameOs W W') (hg : w0.heap.size ≤ g2) (hne : g ≠ g2) : RdP w0 W' g r e := by
  obtain ⟨A, c, hb, hc, hC⟩ := h.blk
  refine ⟨⟨A, c, hk.blk hb hne, hc, hC⟩, h.far, ⟨hs.1.trans h.below.os, hs.2.1.trans h.below.tape, hs.2.2.trans h.below.output, Nat.le_trans h.below.size hk.1, fun i hi => ?_⟩, h.byte⟩
  have h1 := h.below.size
  exact (hk.2 i (by omega) (by omega)).trans (h.below.block i hi)

theorem cell_u8_ne {w : World} {g : Nat} {a : Addr} {x y : Int} {b : Bool} {A : Option Addr} {n c : Nat} (hb : w.heap[g]? = some (.cells #[.slice A n c, .int .i64 y, .bool b] 73 (0, 0))) (hc : w.cell? a = some (.int .u8 x)) : a.block ≠ g := by
  rintro rfl
  unfold World.cell? at hc
  rw [hb] at hc
  simp only at hc
  split at hc
  · cases hc
  · match ho : a.off with
    | 0 => rw [ho] at hc; simp at hc
    | 1 => rw [ho] at hc; simp at hc
    | 2 => rw [ho] at hc; simp at hc
    | k + 3 => rw [ho] at hc; simp at hc

/-- The reference's reader, when the program's has moved: it lies over another elder world. -/
theorem RsP.other {w0 W W' : World} {g g2 : Nat} {l r : List Int} {n : Nat} {e er : Int} (h : RsP w0 W g2 l n e) (hk : Kp g W W') (hs : SameOs W W') (hg : g < w0.heap.size)
    (hb : ∃ A c, W.heap[g]? = some (.cells #[.slice A r.length c, .int .i64 er, .bool true] 73 (0, 0))) : ∃ w1, RsP w1 W' g2 l n e ∧ w1.heap.size = w0.heap.size := by
  obtain ⟨Ag, cg, hbg⟩ := hb
  obtain ⟨A, c, hb2, hc, hC⟩ := h.blk
  have hbg0 := (h.below.block g hg).symm.trans hbg
  have hgW : g < W'.heap.size := by have := h.below.size; have := hk.1; omega
  have hne : g2 ≠ g := by have := h.far; omega
  have hsz : (w0.heap.setIfInBounds g W'.heap[g]).size = w0.heap.size := Array.size_setIfInBounds
  have hget : ∀ i, i < w0.heap.size → i ≠ g → (w0.heap.setIfInBounds g W'.heap[g])[i]? = w0.heap[i]? := fun i hi hig => by
    rw [Array.getElem?_setIfInBounds, if_neg (fun h => hig h.symm)]
  refine ⟨{ w0 with heap := w0.heap.setIfInBounds g W'.heap[g] }, ⟨⟨A, c, hk.blk hb2 hne, hc, ?_⟩, ?_, ⟨hs.1.trans h.below.os, hs.2.1.trans h.below.tape, hs.2.2.trans h.below.output, ?_, ?_⟩, h.byte, h.le, h.len⟩, hsz⟩
  · refine Kd.C_of_reads (d := (0 : Int)) (h1 := fun _ => rfl) ?_
    refine ⟨rfl, Kd.C_max hC, fun hp => ?_⟩
    obtain ⟨ad, hA, _⟩ := Kd.at_int hC 0 (by omega) (by omega)
    subst hA
    refine ⟨ad, rfl, fun j hj => ?_⟩
    obtain ⟨ad', hA', hcell⟩ := Kd.at_int hC (j : Int) (by omega) (by omega)
    cases hA'
    rw [Int.toNat_natCast] at hcell
    have hn := cell_u8_ne hbg0 hcell
    have hlt := World.block_lt_of_cell? w0 _ hcell
    have h2 : rd l (j : Int) = l.getD j 0 := by unfold rd; rw [Int.toNat_natCast]
    rw [← h2, ← hcell]
    unfold World.cell?
    rw [hget _ hlt hn]
  · show (w0.heap.setIfInBounds g W'.heap[g]).size ≤ g2
    rw [hsz]; exact h.far
  · show (w0.heap.setIfInBounds g W'.heap[g]).size ≤ W'.heap.size
    rw [hsz]; exact Nat.le_trans h.below.size hk.1
  · intro i hi
    have hi' : i < w0.heap.size := by rw [← hsz]; exact hi
    show W'.heap[i]? = (w0.heap.setIfInBounds g W'.heap[g])[i]?
    by_cases hig : i = g
    · subst hig
      rw [Array.getElem?_setIfInBounds, if_pos rfl, if_pos hi', Array.getElem?_eq_getElem hgW]
    · rw [hget i hi' hig]
      have h1 := h.below.size
      exact (hk.2 i (by omega) hig).trans (h.below.block i hi')

end Go.Proofs.YtmokngiokdffdaaDoor.P
