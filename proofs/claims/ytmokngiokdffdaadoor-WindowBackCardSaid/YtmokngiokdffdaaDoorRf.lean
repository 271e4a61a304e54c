/-
  tally's reader: what number tells.
-/
import Derived.Test.YtmokngiokdffdaaDoorRe
namespace Go.Proofs.YtmokngiokdffdaaDoor.P
open Go.RowKit Go.Proofs.YtmokngiokdffdaaDoorW.PrintWords Go.Proofs.YtmokngiokdffdaaDoorW.PrintLast Go.Proofs.YtmokngiokdffdaaDoorW.PrintMore
set_option linter.unusedVariables false

def valF (l : List Int) : Int := l.foldl (fun n x => 256 * n + x) 0
/-- What number tells of the bytes that are left: a number, how many bytes it takes, an error. -/
def numF (rest : List Int) : Int × Int × Int :=
  if rest.length = 0 then (0, 0, 10) else
  if 8 < rd rest 0 then (0, 0, 11) else
  if (rest.length : Int) ≤ rd rest 0 then (0, 0, 10) else
  if 0 < rd rest 0 ∧ rd rest 1 = 0 then (0, 0, 11) else
  if rd rest 0 = 8 ∧ 127 < rd rest 1 then (0, 0, 11) else
  (valF ((rest.drop 1).take (rd rest 0).toNat), 1 + rd rest 0, 0)

theorem rd_byte {rest : List Int} (hb : ∀ x ∈ rest, 0 ≤ x ∧ x < 256) (i : Int) (h0 : 0 ≤ i) (h1 : i < rest.length) : 0 ≤ rd rest i ∧ rd rest i < 256 := by
  obtain ⟨j, rfl⟩ := Int.eq_ofNat_of_zero_le h0
  rw [rd_nat rest j (by omega)]
  exact hb _ (List.getElem_mem _)

theorem add_zero' (ad : Addr) : ad.add 0 = ad := by
  obtain ⟨b, o, f⟩ := ad
  unfold Addr.add
  split <;> simp_all

/-- What the walk asks of a reader that has a byte left. -/
theorem RdP.open1 {w0 w : World} {g : Nat} {rest : List Int} {e : Int} (hI : RdP w0 w g rest e) (h0 : 0 < rest.length) :
    ∃ ad c, w.cell? ⟨g, 0, none⟩ = some (.slice (some ad) rest.length c) ∧ rest.length ≤ c ∧ Kd.C (Kd.int .u8) w (some ad) rest.length rest ∧ w.cell? ad = some (.int .u8 (rd rest 0)) ∧ 0 ≤ rd rest 0 ∧ rd rest 0 < 256 := by
  obtain ⟨A, c, hb, hc, hC⟩ := hI.blk
  have hC' := Kd.C_below hC hI.below
  obtain ⟨ad, hA, hx0⟩ := Kd.at_int hC' 0 (by omega) (by omega)
  subst hA
  have hbd := rd_byte hI.byte 0 (by omega) (by omega)
  refine ⟨ad, c, (blk_cell hb 0).trans rfl, hc, hC', ?_, hbd.1, hbd.2⟩
  have e1 : (0 : Int).toNat = 0 := rfl
  rw [e1, add_zero'] at hx0
  exact hx0
theorem RdP.open2 {w0 w : World} {g : Nat} {rest : List Int} {e : Int} (hI : RdP w0 w g rest e) {ad : Addr} (hC : Kd.C (Kd.int .u8) w (some ad) rest.length rest) (h0 : 1 < rest.length) :
    w.cell? ⟨ad.block, ad.off + 1, none⟩ = some (.int .u8 (rd rest 1)) ∧ 0 ≤ rd rest 1 ∧ rd rest 1 < 256 := by
  obtain ⟨ad2, hA, hx0⟩ := Kd.at_int hC 1 (by omega) (by omega)
  cases hA
  have hbd := rd_byte hI.byte 1 (by omega) (by omega)
  exact ⟨hx0, hbd.1, hbd.2⟩

theorem number_nil (w0 w : World) (g : Nat) (e : Int) (hI : RdP w0 w g [] e) :
    Calls Tryd.prog 63 #[.pointer (some ⟨g, 0, none⟩)] w fun en w' => en = .returned (.tuple #[.int .i64 0, .int .i64 0, .int .i64 10]) ∧ w' = w := by
  obtain ⟨A, c, hb, hc, hC⟩ := hI.blk
  have q0 : w.cell? ⟨g, 0, none⟩ = some (.slice A 0 c) := (blk_cell hb 0).trans rfl
  clear hb hI hC
  go_enter Tryd.func63, Tryd.ntmps63
  go_wp2
  go_ret3
  exact ⟨rfl, rfl⟩

theorem number_big (w0 w : World) (g : Nat) (rest : List Int) (e : Int) (hI : RdP w0 w g rest e) (h0 : 0 < rest.length) (h1 : 8 < rd rest 0) :
    Calls Tryd.prog 63 #[.pointer (some ⟨g, 0, none⟩)] w fun en w' => en = .returned (.tuple #[.int .i64 0, .int .i64 0, .int .i64 11]) ∧ w' = w := by
  obtain ⟨ad, c, q0, hc, hC, hx0, hb1, hb2⟩ := hI.open1 h0
  generalize rd rest 0 = x0 at hx0 hb1 hb2 h1
  have hl0 : ((rest.length : Int) == 0) = false := beq_eq_false_iff_ne.mpr (by omega)
  clear hI hC
  go_enter Tryd.func63, Tryd.ntmps63
  go_wp2
  go_ret3
  exact ⟨rfl, rfl⟩

theorem number_cut (w0 w : World) (g : Nat) (rest : List Int) (e : Int) (hI : RdP w0 w g rest e) (h0 : 0 < rest.length) (h1 : rd rest 0 ≤ 8) (h2 : (rest.length : Int) ≤ rd rest 0) :
    Calls Tryd.prog 63 #[.pointer (some ⟨g, 0, none⟩)] w fun en w' => en = .returned (.tuple #[.int .i64 0, .int .i64 0, .int .i64 10]) ∧ w' = w := by
  obtain ⟨ad, c, q0, hc, hC, hx0, hb1, hb2⟩ := hI.open1 h0
  generalize rd rest 0 = x0 at hx0 hb1 hb2 h1 h2
  have hl0 : ((rest.length : Int) == 0) = false := beq_eq_false_iff_ne.mpr (by omega)
  have hd : decide (8 < x0) = false := decide_eq_false (by omega)
  clear hI hC
  go_enter Tryd.func63, Tryd.ntmps63
  go_wp2
  go_ret3
  exact ⟨rfl, rfl⟩

theorem number_zero (w0 w : World) (g : Nat) (rest : List Int) (e : Int) (hI : RdP w0 w g rest e) (h0 : 0 < rest.length) (h1 : rd rest 0 ≤ 8) (h2 : rd rest 0 < (rest.length : Int)) (h3 : 0 < rd rest 0) (h4 : rd rest 1 = 0) :
    Calls Tryd.prog 63 #[.pointer (some ⟨g, 0, none⟩)] w fun en w' => en = .returned (.tuple #[.int .i64 0, .int .i64 0, .int .i64 11]) ∧ w' = w := by
  obtain ⟨ad, c, q0, hc, hC, hx0, hb1, hb2⟩ := hI.open1 h0
  obtain ⟨hx1, hb3, hb4⟩ := hI.open2 hC (by omega)
  rw [h4] at hx1
  generalize rd rest 0 = x0 at hx0 hb1 hb2 h1 h2 h3
  have hl0 : ((rest.length : Int) == 0) = false := beq_eq_false_iff_ne.mpr (by omega)
  have hd : decide (8 < x0) = false := decide_eq_false (by omega)
  have hd2 : decide ((rest.length : Int) ≤ x0) = false := decide_eq_false (by omega)
  have hd3 : decide (0 < x0) = true := decide_eq_true h3
  have hl1 : 1 < (rest.length : Int) := by omega
  clear hI hC hb3 hb4 h4
  go_enter Tryd.func63, Tryd.ntmps63
  go_wp2
  go_ret3
  exact ⟨rfl, rfl⟩

theorem number_high (w0 w : World) (g : Nat) (rest : List Int) (e : Int) (hI : RdP w0 w g rest e) (h0 : 0 < rest.length) (h2 : rd rest 0 < (rest.length : Int)) (h3 : rd rest 0 = 8) (h4 : rd rest 1 ≠ 0) (h5 : 127 < rd rest 1) :
    Calls Tryd.prog 63 #[.pointer (some ⟨g, 0, none⟩)] w fun en w' => en = .returned (.tuple #[.int .i64 0, .int .i64 0, .int .i64 11]) ∧ w' = w := by
  obtain ⟨ad, c, q0, hc, hC, hx0, hb1, hb2⟩ := hI.open1 h0
  obtain ⟨hx1, hb3, hb4⟩ := hI.open2 hC (by omega)
  rw [h3] at hx0 h2
  generalize rd rest 1 = x1 at hx1 hb3 hb4 h4 h5
  have hl0 : ((rest.length : Int) == 0) = false := beq_eq_false_iff_ne.mpr (by omega)
  have hd2 : decide ((rest.length : Int) ≤ 8) = false := decide_eq_false (by omega)
  have hd4 : (x1 == 0) = false := beq_eq_false_iff_ne.mpr h4
  have hl1 : 1 < (rest.length : Int) := by omega
  clear hI hC hb1 hb2 h3 h4
  go_enter Tryd.func63, Tryd.ntmps63
  go_wp2
  go_ret3
  exact ⟨rfl, rfl⟩

end Go.Proofs.YtmokngiokdffdaaDoor.P
