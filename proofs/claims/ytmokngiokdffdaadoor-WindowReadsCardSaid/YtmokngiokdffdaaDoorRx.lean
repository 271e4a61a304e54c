-- Rx: the texts Rd, Re, Rf, Rg, Rh, Ri, Rj, Rk, one behind the other (merge.py)
import Derived.Test.YtmokngiokdffdaaDoorRc
import Derived.BigQuiet
import Derived.Deep.QuietTactic
import Derived.Laws.BitsLemmas
import Derived.Test.YtmokngiokdffdaaDoorRb
import Derived.Test.YtmokngiokdffdaaDoorPt
/-
  tally's reader: its state, and what its calls tell.
-/
namespace Go.Proofs.YtmokngiokdffdaaDoor.P
open Go.RowKit Go.Proofs.YtmokngiokdffdaaDoorW.PrintWords Go.Proofs.YtmokngiokdffdaaDoorW.PrintLast Go.Proofs.YtmokngiokdffdaaDoorW.PrintMore
set_option linter.unusedVariables false

/-- A reader of the program at block g: the bytes that are left, the first error. -/
structure RdP (w0 W : World) (g : Nat) (rest : List Int) (e : Int) : Prop where
  blk : ∃ A c, W.heap[g]? = some (.cells #[.slice A rest.length c, .int .i64 e, .bool true] 73 (0, 0)) ∧ rest.length ≤ c ∧ Kd.C (Kd.int .u8) w0 A rest.length rest
  far : w0.heap.size ≤ g
  below : Below w0.heap.size w0 W
  byte : ∀ x ∈ rest, 0 ≤ x ∧ x < 256

theorem stopped_any (w0 w : World) (g : Nat) (rest : List Int) (e : Int) (hI : RdP w0 w g rest e) :
    Calls Tryd.prog 58 #[.pointer (some ⟨g, 0, none⟩)] w fun en w' => en = .returned (.bool (e != 0)) ∧ w' = w := by
  obtain ⟨A, c, hb, _, _⟩ := hI.blk
  have q0 : w.cell? ⟨g, 0, none⟩ = some (.slice A rest.length c) := (blk_cell hb 0).trans rfl
  have q1 : w.cell? ⟨g, 1, none⟩ = some (.int .i64 e) := (blk_cell hb 1).trans rfl
  have q2 : w.cell? ⟨g, 2, none⟩ = some (.bool true) := (blk_cell hb 2).trans rfl
  clear hb
  go_enter Tryd.func58, Tryd.ntmps58
  go_wp2
  go_ret
  exact ⟨by simp, rfl⟩

theorem Err_any (w0 w : World) (g : Nat) (rest : List Int) (e : Int) (hI : RdP w0 w g rest e) :
    Calls Tryd.prog 40 #[.pointer (some ⟨g, 0, none⟩)] w fun en w' => en = .returned (.int .i64 e) ∧ w' = w := by
  obtain ⟨A, c, hb, _, _⟩ := hI.blk
  have q0 : w.cell? ⟨g, 0, none⟩ = some (.slice A rest.length c) := (blk_cell hb 0).trans rfl
  have q1 : w.cell? ⟨g, 1, none⟩ = some (.int .i64 e) := (blk_cell hb 1).trans rfl
  have q2 : w.cell? ⟨g, 2, none⟩ = some (.bool true) := (blk_cell hb 2).trans rfl
  clear hb
  go_enter Tryd.func40, Tryd.ntmps40
  go_wp2
  go_ret
  exact ⟨by simp, rfl⟩

theorem left_any (w0 w : World) (g : Nat) (rest : List Int) (e : Int) (hI : RdP w0 w g rest e) :
    Calls Tryd.prog 59 #[.pointer (some ⟨g, 0, none⟩)] w fun en w' => en = .returned (.int .i64 (rest.length : Int)) ∧ w' = w := by
  obtain ⟨A, c, hb, _, _⟩ := hI.blk
  have q0 : w.cell? ⟨g, 0, none⟩ = some (.slice A rest.length c) := (blk_cell hb 0).trans rfl
  clear hb
  go_enter Tryd.func59, Tryd.ntmps59
  go_wp2
  go_ret
  exact ⟨by simp, rfl⟩

theorem Left_any (w0 w : World) (g : Nat) (rest : List Int) (e : Int) (hI : RdP w0 w g rest e) :
    Calls Tryd.prog 41 #[.pointer (some ⟨g, 0, none⟩)] w fun en w' => en = .returned (.int .i64 (if e = 0 then (rest.length : Int) else 0)) ∧ w' = w := by
  have HI := Aside0.mk hI
  by_cases he : e = 0
  · have hn : (e != 0) = false := by simp [he]
    rw [if_pos he]
    clear hI he
    go_enter Tryd.func41, Tryd.ntmps41
    go_wp2_with (first | (go_at_call 58; refine (stopped_any w0 w g rest e HI.out).mono ?_; rintro en w' ⟨rfl, rfl⟩) | (go_at_call 59; refine (left_any w0 _ g rest e HI.out).mono ?_; rintro en w' ⟨rfl, rfl⟩))
    go_ret
    exact ⟨rfl, rfl⟩
  · have hn : (e != 0) = true := by simp [he]
    rw [if_neg he]
    clear hI he
    go_enter Tryd.func41, Tryd.ntmps41
    go_wp2_with (first | (go_at_call 58; refine (stopped_any w0 w g rest e HI.out).mono ?_; rintro en w' ⟨rfl, rfl⟩) | (go_at_call 59; refine (left_any w0 _ g rest e HI.out).mono ?_; rintro en w' ⟨rfl, rfl⟩))
    go_ret
    exact ⟨rfl, rfl⟩

end Go.Proofs.YtmokngiokdffdaaDoor.P

/-
  tally's reader: number, fail, take, Num.
-/
namespace Go.Proofs.YtmokngiokdffdaaDoor.P
open Go.RowKit Go.Proofs.YtmokngiokdffdaaDoorW.PrintWords Go.Proofs.YtmokngiokdffdaaDoorW.PrintLast Go.Proofs.YtmokngiokdffdaaDoorW.PrintMore
set_option linter.unusedVariables false

/-- All blocks but g lie as they lay. -/
def Kp (g : Nat) (w w' : World) : Prop := w.heap.size ≤ w'.heap.size ∧ ∀ i, i < w.heap.size → i ≠ g → w'.heap[i]? = w.heap[i]?
theorem Kp.refl (g : Nat) (w : World) : Kp g w w := ⟨Nat.le_refl _, fun _ _ _ => rfl⟩
theorem Kp.trans {g : Nat} {a b c : World} (h : Kp g a b) (k : Kp g b c) : Kp g a c := ⟨Nat.le_trans h.1 k.1, fun i hi hg => (k.2 i (Nat.lt_of_lt_of_le hi h.1) hg).trans (h.2 i hi hg)⟩
theorem Kp.setCell (g j : Nat) (w : World) (v : Value) : Kp g w (w.setCell ⟨g, j, none⟩ v) := ⟨by simp, fun i _ hg => Below.heap_setCell w ⟨g, j, none⟩ v i hg⟩
theorem Kp.below {g : Nat} {w w' : World} (h : Below w.heap.size w w') : Kp g w w' := ⟨h.size, fun i hi _ => h.block i hi⟩

theorem fail_any (w0 w : World) (g : Nat) (rest : List Int) (e x : Int) (hI : RdP w0 w g rest e) :
    Calls Tryd.prog 64 #[.pointer (some ⟨g, 0, none⟩), .int .i64 x] w fun en w' => en = .returned (.tuple #[]) ∧ RdP w0 w' g [] x ∧ Kp g w w' := by
  obtain ⟨A, c, hb, _, _⟩ := hI.blk
  have q0 : w.cell? ⟨g, 0, none⟩ = some (.slice A rest.length c) := (blk_cell hb 0).trans rfl
  have q1 : w.cell? ⟨g, 1, none⟩ = some (.int .i64 e) := (blk_cell hb 1).trans rfl
  have f0 := blk_frozen hb 0
  have f1 := blk_frozen hb 1
  have HB := Aside0.mk hb
  have HI := Aside0.mk hI
  clear hb hI
  go_enter Tryd.func64, Tryd.ntmps64
  go_wp2
  go_end0
  have h1 := blk_set (blk_set HB.out 1 (.int .i64 x)) 0 (.slice none 0 0)
  refine ⟨rfl, ⟨⟨none, 0, ?_, Nat.le_refl _, Kd.C_nil _ _⟩, HI.out.far, (HI.out.below.setCell (p := ⟨g, 1, none⟩) HI.out.far _).setCell (p := ⟨g, 0, none⟩) HI.out.far _, fun _ h => by cases h⟩, (Kp.setCell g 1 w _).trans (Kp.setCell g 0 _ _)⟩
  simpa using h1

theorem C_drop {w : World} {ad : Addr} {l : List Int} {n : Nat} (h : Kd.C (Kd.int .u8) w (some ad) l.length l) (hn : n ≤ l.length) :
    Kd.C (Kd.int .u8) w (some (ad.add n)) (l.drop n).length (l.drop n) := by
  refine Kd.C_of_reads (d := (0 : Int)) (h1 := fun _ => rfl) ?_
  have hm := Kd.C_max h
  have hl : (l.drop n).length = l.length - n := by simp
  refine ⟨rfl, by omega, fun hp => ⟨_, rfl, fun j hj => ?_⟩⟩
  obtain ⟨ad2, e, hc⟩ := Kd.at_int h ((n + j : Nat) : Int) (by omega) (by omega)
  cases e
  have e1 : (ad.add n).add j = ad.add (n + j) := by rw [add_add]
  rw [e1]
  have e2 : rd l ((n + j : Nat) : Int) = (l.drop n).getD j 0 := by
    rw [rd_nat l (n + j) (by omega)]
    rw [List.getD_eq_getElem?_getD, List.getElem?_drop, List.getElem?_eq_getElem (by omega)]; rfl
  rw [← e2]
  exact hc

theorem take_any (w0 w : World) (g n : Nat) (rest : List Int) (e : Int) (hI : RdP w0 w g rest e) (hn : n ≤ rest.length) (hp : 0 < n) :
    Calls Tryd.prog 65 #[.pointer (some ⟨g, 0, none⟩), .int .i64 (n : Int)] w fun en w' => (∃ v, en = .returned v) ∧ RdP w0 w' g (rest.drop n) e ∧ Kp g w w' := by
  obtain ⟨A, c, hb, hc, hC⟩ := hI.blk
  have q0 : w.cell? ⟨g, 0, none⟩ = some (.slice A rest.length c) := (blk_cell hb 0).trans rfl
  have f0 := blk_frozen hb 0
  have HB := Aside0.mk hb
  have HI := Aside0.mk hI
  have HC := Aside0.mk hC
  obtain ⟨ad, hA, _⟩ := Kd.at_int hC 0 (by omega) (by omega)
  subst hA
  have HM := Aside0.mk (Kd.C_max hC)
  clear hb hI hC
  by_cases hcap : c = n
  · subst hcap
    have hn2 : (c : Int) ≤ (rest.length : Int) := by omega
    go_enter Tryd.func65, Tryd.ntmps65
    go_wp2
    go_ret
    have h1 := blk_set HB.out 0 (.slice (some ad) (rest.length - c) 0)
    have hd : rest.drop c = [] := List.drop_of_length_le (by omega)
    rw [hd]
    have hl : rest.length - c = 0 := by omega
    refine ⟨⟨_, rfl⟩, ⟨⟨some ad, 0, ?_, Nat.le_refl _, ?_⟩, HI.out.far, HI.out.below.setCell (p := ⟨g, 0, none⟩) HI.out.far _, fun x hx => by cases hx⟩, Kp.setCell g 0 w _⟩
    · simpa [hl] using h1
    · exact Kd.C_of_reads (d := (0 : Int)) (h1 := fun _ => rfl) ⟨rfl, by simp, fun h => absurd h (by simp)⟩
  · have hn1 : (n : Int) ≤ (c : Int) := by omega
    have hn2 : (n : Int) ≤ (rest.length : Int) := by omega
    go_enter Tryd.func65, Tryd.ntmps65
    go_wp2
    go_ret
    have h1 := blk_set HB.out 0 (.slice (some (ad.add n)) (rest.length - n) (c - n))
    have hl : (rest.drop n).length = rest.length - n := by simp
    refine ⟨⟨_, rfl⟩, ⟨⟨some (ad.add n), c - n, ?_, ?_, C_drop HC.out hn⟩, HI.out.far, HI.out.below.setCell (p := ⟨g, 0, none⟩) HI.out.far _, fun x hx => HI.out.byte x (List.mem_of_mem_drop hx)⟩, Kp.setCell g 0 w _⟩
    · rw [hl]; simpa using h1
    · rw [hl]; omega

end Go.Proofs.YtmokngiokdffdaaDoor.P

/-
  tally's reader: what number tells.
-/
namespace Go.Proofs.YtmokngiokdffdaaDoor.P
open Go.RowKit Go.Proofs.YtmokngiokdffdaaDoorW.PrintWords Go.Proofs.YtmokngiokdffdaaDoorW.PrintLast Go.Proofs.YtmokngiokdffdaaDoorW.PrintMore
set_option linter.unusedVariables false

def valF (l : List Int) : Int := l.foldl (fun n x => 256 * n + x) 0
/-- What number tells of the bytes that are left: a number, how many bytes it takes, an error. -/
def numF (rest : List Int) : Int × Int × Int :=
  if rest.length = 0 then (0, 0, 10) else
  if 8 < rd rest 0 then (0, 0, 11) else
  if (rest.length : Int) ≤ rd rest 0 then (0, 0, 10) else
  if 0 < rd rest 0 ∧ rd rest 1 = 0 then (0, 0, 11) else
  if rd rest 0 = 8 ∧ 127 < rd rest 1 then (0, 0, 11) else
  (valF ((rest.drop 1).take (rd rest 0).toNat), 1 + rd rest 0, 0)

theorem rd_byte {rest : List Int} (hb : ∀ x ∈ rest, 0 ≤ x ∧ x < 256) (i : Int) (h0 : 0 ≤ i) (h1 : i < rest.length) : 0 ≤ rd rest i ∧ rd rest i < 256 := by
  obtain ⟨j, rfl⟩ := Int.eq_ofNat_of_zero_le h0
  rw [rd_nat rest j (by omega)]
  exact hb _ (List.getElem_mem _)

theorem add_zero' (ad : Addr) : ad.add 0 = ad := by
  obtain ⟨b, o, f⟩ := ad
  unfold Addr.add
  split <;> simp_all

/-- What the walk asks of a reader that has a byte left. -/
theorem RdP.open1 {w0 w : World} {g : Nat} {rest : List Int} {e : Int} (hI : RdP w0 w g rest e) (h0 : 0 < rest.length) :
    ∃ ad c, w.cell? ⟨g, 0, none⟩ = some (.slice (some ad) rest.length c) ∧ rest.length ≤ c ∧ Kd.C (Kd.int .u8) w (some ad) rest.length rest ∧ w.cell? ad = some (.int .u8 (rd rest 0)) ∧ 0 ≤ rd rest 0 ∧ rd rest 0 < 256 := by
  obtain ⟨A, c, hb, hc, hC⟩ := hI.blk
  have hC' := Kd.C_below hC hI.below
  obtain ⟨ad, hA, hx0⟩ := Kd.at_int hC' 0 (by omega) (by omega)
  subst hA
  have hbd := rd_byte hI.byte 0 (by omega) (by omega)
  refine ⟨ad, c, (blk_cell hb 0).trans rfl, hc, hC', ?_, hbd.1, hbd.2⟩
  have e1 : (0 : Int).toNat = 0 := rfl
  rw [e1, add_zero'] at hx0
  exact hx0
theorem RdP.open2 {w0 w : World} {g : Nat} {rest : List Int} {e : Int} (hI : RdP w0 w g rest e) {ad : Addr} (hC : Kd.C (Kd.int .u8) w (some ad) rest.length rest) (h0 : 1 < rest.length) :
    w.cell? ⟨ad.block, ad.off + 1, none⟩ = some (.int .u8 (rd rest 1)) ∧ 0 ≤ rd rest 1 ∧ rd rest 1 < 256 := by
  obtain ⟨ad2, hA, hx0⟩ := Kd.at_int hC 1 (by omega) (by omega)
  cases hA
  have hbd := rd_byte hI.byte 1 (by omega) (by omega)
  exact ⟨hx0, hbd.1, hbd.2⟩

theorem number_nil (w0 w : World) (g : Nat) (e : Int) (hI : RdP w0 w g [] e) :
    Calls Tryd.prog 63 #[.pointer (some ⟨g, 0, none⟩)] w fun en w' => en = .returned (.tuple #[.int .i64 0, .int .i64 0, .int .i64 10]) ∧ w' = w := by
  obtain ⟨A, c, hb, hc, hC⟩ := hI.blk
  have q0 : w.cell? ⟨g, 0, none⟩ = some (.slice A 0 c) := (blk_cell hb 0).trans rfl
  clear hb hI hC
  go_enter Tryd.func63, Tryd.ntmps63
  go_wp2
  go_ret3
  exact ⟨rfl, rfl⟩

theorem number_big (w0 w : World) (g : Nat) (rest : List Int) (e : Int) (hI : RdP w0 w g rest e) (h0 : 0 < rest.length) (h1 : 8 < rd rest 0) :
    Calls Tryd.prog 63 #[.pointer (some ⟨g, 0, none⟩)] w fun en w' => en = .returned (.tuple #[.int .i64 0, .int .i64 0, .int .i64 11]) ∧ w' = w := by
  obtain ⟨ad, c, q0, hc, hC, hx0, hb1, hb2⟩ := hI.open1 h0
  generalize rd rest 0 = x0 at hx0 hb1 hb2 h1
  have hl0 : ((rest.length : Int) == 0) = false := beq_eq_false_iff_ne.mpr (by omega)
  clear hI hC
  go_enter Tryd.func63, Tryd.ntmps63
  go_wp2
  go_ret3
  exact ⟨rfl, rfl⟩

theorem number_cut (w0 w : World) (g : Nat) (rest : List Int) (e : Int) (hI : RdP w0 w g rest e) (h0 : 0 < rest.length) (h1 : rd rest 0 ≤ 8) (h2 : (rest.length : Int) ≤ rd rest 0) :
    Calls Tryd.prog 63 #[.pointer (some ⟨g, 0, none⟩)] w fun en w' => en = .returned (.tuple #[.int .i64 0, .int .i64 0, .int .i64 10]) ∧ w' = w := by
  obtain ⟨ad, c, q0, hc, hC, hx0, hb1, hb2⟩ := hI.open1 h0
  generalize rd rest 0 = x0 at hx0 hb1 hb2 h1 h2
  have hl0 : ((rest.length : Int) == 0) = false := beq_eq_false_iff_ne.mpr (by omega)
  have hd : decide (8 < x0) = false := decide_eq_false (by omega)
  clear hI hC
  go_enter Tryd.func63, Tryd.ntmps63
  go_wp2
  go_ret3
  exact ⟨rfl, rfl⟩

theorem number_zero (w0 w : World) (g : Nat) (rest : List Int) (e : Int) (hI : RdP w0 w g rest e) (h0 : 0 < rest.length) (h1 : rd rest 0 ≤ 8) (h2 : rd rest 0 < (rest.length : Int)) (h3 : 0 < rd rest 0) (h4 : rd rest 1 = 0) :
    Calls Tryd.prog 63 #[.pointer (some ⟨g, 0, none⟩)] w fun en w' => en = .returned (.tuple #[.int .i64 0, .int .i64 0, .int .i64 11]) ∧ w' = w := by
  obtain ⟨ad, c, q0, hc, hC, hx0, hb1, hb2⟩ := hI.open1 h0
  obtain ⟨hx1, hb3, hb4⟩ := hI.open2 hC (by omega)
  rw [h4] at hx1
  generalize rd rest 0 = x0 at hx0 hb1 hb2 h1 h2 h3
  have hl0 : ((rest.length : Int) == 0) = false := beq_eq_false_iff_ne.mpr (by omega)
  have hd : decide (8 < x0) = false := decide_eq_false (by omega)
  have hd2 : decide ((rest.length : Int) ≤ x0) = false := decide_eq_false (by omega)
  have hd3 : decide (0 < x0) = true := decide_eq_true h3
  have hl1 : 1 < (rest.length : Int) := by omega
  clear hI hC hb3 hb4 h4
  go_enter Tryd.func63, Tryd.ntmps63
  go_wp2
  go_ret3
  exact ⟨rfl, rfl⟩

theorem number_high (w0 w : World) (g : Nat) (rest : List Int) (e : Int) (hI : RdP w0 w g rest e) (h0 : 0 < rest.length) (h2 : rd rest 0 < (rest.length : Int)) (h3 : rd rest 0 = 8) (h4 : rd rest 1 ≠ 0) (h5 : 127 < rd rest 1) :
    Calls Tryd.prog 63 #[.pointer (some ⟨g, 0, none⟩)] w fun en w' => en = .returned (.tuple #[.int .i64 0, .int .i64 0, .int .i64 11]) ∧ w' = w := by
  obtain ⟨ad, c, q0, hc, hC, hx0, hb1, hb2⟩ := hI.open1 h0
  obtain ⟨hx1, hb3, hb4⟩ := hI.open2 hC (by omega)
  rw [h3] at hx0 h2
  generalize rd rest 1 = x1 at hx1 hb3 hb4 h4 h5
  have hl0 : ((rest.length : Int) == 0) = false := beq_eq_false_iff_ne.mpr (by omega)
  have hd2 : decide ((rest.length : Int) ≤ 8) = false := decide_eq_false (by omega)
  have hd4 : (x1 == 0) = false := beq_eq_false_iff_ne.mpr h4
  have hl1 : 1 < (rest.length : Int) := by omega
  clear hI hC hb1 hb2 h3 h4
  go_enter Tryd.func63, Tryd.ntmps63
  go_wp2
  go_ret3
  exact ⟨rfl, rfl⟩

end Go.Proofs.YtmokngiokdffdaaDoor.P

/-
  tally's reader: number where it fits; Num.
-/
namespace Go.Proofs.YtmokngiokdffdaaDoor.P
open Go.RowKit Go.Proofs.YtmokngiokdffdaaDoorW.PrintWords Go.Proofs.YtmokngiokdffdaaDoorW.PrintLast Go.Proofs.YtmokngiokdffdaaDoorW.PrintMore
set_option linter.unusedVariables false

theorem valF_foldl (l : List Int) : ∀ a : Int, l.foldl (fun n x => 256 * n + x) a = a * 256 ^ l.length + valF l := by
  induction l with
  | nil => intro a; simp [valF]
  | cons x l ih =>
    intro a
    have h2 : valF (x :: l) = (256 * 0 + x) * 256 ^ l.length + valF l := ih _
    simp only [List.foldl_cons]
    rw [ih, h2, List.length_cons, Int.pow_succ]
    simp only [Int.mul_zero, Int.zero_add, Int.add_mul]
    rw [Int.mul_comm 256 a, Int.mul_assoc, Int.mul_comm 256, Int.add_assoc]
theorem valF_cons (x : Int) (l : List Int) : valF (x :: l) = x * 256 ^ l.length + valF l := by
  have h : valF (x :: l) = (256 * 0 + x) * 256 ^ l.length + valF l := valF_foldl l (256 * 0 + x)
  simpa using h
theorem valF_snoc (l : List Int) (x : Int) : valF (l ++ [x]) = 256 * valF l + x := by
  unfold valF; rw [List.foldl_append]; rfl
theorem valF_lt (l : List Int) (hb : ∀ x ∈ l, 0 ≤ x ∧ x < 256) : 0 ≤ valF l ∧ valF l < 256 ^ l.length := by
  induction l with
  | nil => simp [valF]
  | cons x l ih =>
    obtain ⟨h1, h2⟩ := ih (fun y hy => hb y (List.mem_cons_of_mem _ hy))
    obtain ⟨h3, h4⟩ := hb x List.mem_cons_self
    rw [valF_cons, List.length_cons, Int.pow_succ]
    have hp : (0 : Int) ≤ 256 ^ l.length := Int.pow_nonneg (by decide)
    generalize (256 : Int) ^ l.length = p at *
    have h5 : 0 ≤ x * p := Int.mul_nonneg h3 hp
    have h6 : x * p ≤ 255 * p := Int.mul_le_mul_of_nonneg_right (by omega) hp
    constructor
    · omega
    · rw [Int.mul_comm p 256]; omega
theorem valF_low (x : Int) (l : List Int) (hb : ∀ x ∈ l, 0 ≤ x ∧ x < 256) (h0 : 0 ≤ x) (h1 : x ≤ 127) : valF (x :: l) < 128 * 256 ^ l.length := by
  obtain ⟨h2, h3⟩ := valF_lt l hb
  rw [valF_cons]
  have hp : (0 : Int) ≤ 256 ^ l.length := Int.pow_nonneg (by decide)
  generalize (256 : Int) ^ l.length = p at *
  have h6 : x * p ≤ 127 * p := Int.mul_le_mul_of_nonneg_right h1 hp
  omega
theorem pow_le_int {a b : Nat} (h : a ≤ b) : (256 : Int) ^ a ≤ 256 ^ b := by
  have := Nat.pow_le_pow_right (show 0 < 256 by decide) h
  have e : ∀ n : Nat, (256 : Int) ^ n = ((256 ^ n : Nat) : Int) := fun n => by simp
  rw [e, e]; omega

/-- The number so far, at each place, leaves room for one more byte. -/
theorem val_room (L : List Int) (hb : ∀ x ∈ L, 0 ≤ x ∧ x < 256) (h8 : L.length ≤ 8) (hlow : L.length = 8 → L.getD 0 0 ≤ 127) (i : Nat) (hi : i < L.length) : 0 ≤ valF (L.take i) ∧ valF (L.take i) * 256 < 9223372036854775808 := by
  have hbt : ∀ x ∈ L.take i, 0 ≤ x ∧ x < 256 := fun x hx => hb x (List.mem_of_mem_take hx)
  obtain ⟨h1, h2⟩ := valF_lt (L.take i) hbt
  refine ⟨h1, ?_⟩
  rw [List.length_take, Nat.min_eq_left (by omega)] at h2
  by_cases h7 : i ≤ 6
  · have := pow_le_int h7
    have e : (256 : Int) ^ 6 = 281474976710656 := by decide
    omega
  · have hl8 : L.length = 8 := by omega
    have hi7 : i = 7 := by omega
    subst hi7
    cases L with
    | nil => simp at hl8
    | cons x t =>
      have hx := hlow hl8
      simp at hx
      have hx0 := hb x List.mem_cons_self
      have h3 := valF_low x (t.take 6) (fun y hy => hb y (List.mem_cons_of_mem _ (List.mem_of_mem_take hy))) hx0.1 hx
      have h4 : (t.take 6).length = 6 := by simp at hl8; rw [List.length_take]; omega
      have e : (256 : Int) ^ 6 = 281474976710656 := by decide
      rw [h4, e] at h3
      simp only [List.take_succ_cons]
      omega

theorem or_key (N x : Int) (h0 : 0 ≤ N) (h1 : N * 256 < 9223372036854775808) (h2 : 0 ≤ x) (h3 : x < 256) : bits .or .i64 (N * 256) x = N * 256 + x :=
  bits_join .i64 63 (by decide) (fun n a b => by rw [IntKind.wrap_i64]; omega) 8 (N * 256) x (by omega) (by omega) (by omega) h2 (by omega) (by omega)

theorem rd_drop (rest : List Int) (k : Nat) (i : Nat) (h : i < k) (hk : k < rest.length) : ((rest.drop 1).take k).length = k ∧ (((rest.drop 1).take k)[i]?).getD 0 = rd rest ((i + 1 : Nat) : Int) := by
  have hl : ((rest.drop 1).take k).length = k := by rw [List.length_take, List.length_drop]; omega
  refine ⟨hl, ?_⟩
  rw [rd_nat rest (i + 1) (by omega), List.getElem?_take, if_pos h, List.getElem?_drop, Nat.add_comm, List.getElem?_eq_getElem (by omega)]
  rfl

theorem walk_cell {w : World} {ad : Addr} {rest : List Int} (h : Kd.C (Kd.int .u8) w (some ad) rest.length rest) (i : Int) (h0 : 0 ≤ i) (h1 : i + 1 < rest.length) :
    w.cell? ⟨ad.block, ad.off + 1 + i.toNat, none⟩ = some (.int .u8 (rd rest (i + 1))) := by
  obtain ⟨ad2, e, hc⟩ := Kd.at_int h (i + 1) (by omega) (by omega)
  cases e
  have e1 : ad.add (i + 1).toNat = ⟨ad.block, ad.off + 1 + i.toNat, none⟩ := by
    have : (i + 1).toNat = i.toNat + 1 := by omega
    rw [this]
    unfold Addr.add
    rw [if_neg (by omega)]
    have e2 : ad.off + (i.toNat + 1) = ad.off + 1 + i.toNat := by omega
    rw [e2]
  rw [← e1]; exact hc

set_option maxRecDepth 100000 in
set_option maxHeartbeats 8000000 in
theorem number_ok (w0 w : World) (g : Nat) (rest : List Int) (e : Int) (hI : RdP w0 w g rest e) (h0 : 0 < rest.length) (h1 : rd rest 0 ≤ 8) (h2 : rd rest 0 < (rest.length : Int))
    (h3 : 0 < rd rest 0 → rd rest 1 ≠ 0) (h4 : rd rest 0 = 8 → rd rest 1 ≤ 127) :
    Calls Tryd.prog 63 #[.pointer (some ⟨g, 0, none⟩)] w fun en w' => en = .returned (.tuple #[.int .i64 (valF ((rest.drop 1).take (rd rest 0).toNat)), .int .i64 (1 + rd rest 0), .int .i64 0]) ∧ w' = w := by
  obtain ⟨ad, c, q0, hc, hC, hx0, hb1, hb2⟩ := hI.open1 h0
  have hbyte : ∀ x ∈ (rest.drop 1).take (rd rest 0).toNat, 0 ≤ x ∧ x < 256 := fun x hx => hI.byte x (List.mem_of_mem_drop (List.mem_of_mem_take hx))
  have HRB := Aside0.mk (rd_byte hI.byte)
  have h5 : 0 < rd rest 0 → w.cell? ⟨ad.block, ad.off + 1, none⟩ = some (.int .u8 (rd rest 1)) ∧ 0 ≤ rd rest 1 ∧ rd rest 1 < 256 := fun h => hI.open2 hC (by omega)
  obtain ⟨kk, hkk⟩ : ∃ kk : Nat, rd rest 0 = (kk : Int) := ⟨(rd rest 0).toNat, by omega⟩
  have hroom : ∀ i, i < kk → 0 ≤ valF (((rest.drop 1).take kk).take i) ∧ valF (((rest.drop 1).take kk).take i) * 256 < 9223372036854775808 := by
    intro i hi
    have hl := (rd_drop rest kk i hi (by omega)).1
    have e0 : (rd rest 0).toNat = kk := by omega
    rw [e0] at hbyte
    refine val_room _ hbyte (by omega) (fun h8 => ?_) i (by omega)
    have hz := (rd_drop rest kk 0 (by omega) (by omega)).2
    rw [List.getD_eq_getElem?_getD, hz]
    exact h4 (by omega)
  have e0 : (rd rest 0).toNat = kk := by omega
  rw [e0]
  clear hbyte e0
  have HV := Aside0.mk hroom
  have HC := Aside0.mk hC
  have hl0 : ((rest.length : Int) == 0) = false := beq_eq_false_iff_ne.mpr (by omega)
  rw [hkk] at hx0 hb1 hb2 h1 h2 h3 h4 h5 ⊢
  have hd : decide (8 < (kk : Int)) = false := decide_eq_false (by omega)
  have hd2 : decide ((rest.length : Int) ≤ (kk : Int)) = false := decide_eq_false (by omega)
  clear hI hC hroom hkk
  by_cases hx : 0 < (kk : Int)
  · have hd3 : decide (0 < (kk : Int)) = true := decide_eq_true hx
    have hd3' : decide (0 < kk) = true := decide_eq_true (by omega)
    obtain ⟨q1, hb3, hb4⟩ := h5 hx
    have hn1 := h3 hx
    have hd4 : (rd rest 1 == 0) = false := beq_eq_false_iff_ne.mpr hn1
    have hl1 : 1 < (rest.length : Int) := by omega
    have hc1 : (1 : Int) < (c : Int) := by omega
    generalize rd rest 1 = x1 at q1 hb3 hb4 hd4 h4
    clear h3 h5 hn1
    by_cases hx8 : (kk : Int) = 8
    · have hd8 : ((kk : Int) == 8) = true := beq_iff_eq.mpr hx8
      have hlow := h4 hx8
      have hd9 : decide (127 < x1) = false := decide_eq_false (by omega)
      clear h4 hx8
      go_enter Tryd.func63, Tryd.ntmps63
      go_wp2
      go_loop [2, 63] (fun v2 v63 => ∃ (x2 i : Int), v2 = .int .i64 x2 ∧ v63 = .int .i64 i ∧ Aside0 (0 ≤ i ∧ i ≤ (kk : Int) ∧ x2 = valF (((rest.drop 1).take kk).take i.toNat))) (fun _ v63 => kk - (intOf v63).toNat)
      case atStart => exact ⟨0, 0, rfl, rfl, ⟨Int.le_refl _, by omega, rfl⟩⟩
      case round =>
        obtain ⟨x2, i, rfl, rfl, HI2⟩ := hrel
        by_cases c2 : i < (kk : Int)
        · have c2b0 : decide (i < (kk : Int)) = true := decide_eq_true c2
          have hi0 := HI2.out.1
          obtain ⟨hN0, hN1⟩ := HV.out i.toNat (by omega)
          have hcell := walk_cell HC.out i hi0 (by omega)
          obtain ⟨hy0, hy1⟩ := HRB.out (i + 1) (by omega) (by omega)
          have HRD := Aside0.mk (rd_drop rest kk i.toNat (by omega) (by omega))
          have e1 : ((i.toNat + 1 : Nat) : Int) = i + 1 := by omega
          have HE1 := Aside0.mk e1
          rw [← HI2.out.2.2] at hN0 hN1
          generalize hy : rd rest (i + 1) = y at hcell hy0 hy1
          have HY := Aside0.mk hy
          have HOR := Aside0.mk (or_key x2 y hN0 hN1 hy0 hy1)
          clear hy e1
          go_wp2
          go_round
          case rel =>
            have h1 := HI2.out
            have h2 := HRD.out.2
            have h3 := HE1.out
            refine ⟨x2 * 256 + y, i + 1, by rw [HOR.out], rfl, ⟨by omega, by omega, ?_⟩⟩
            have e4 : (i + 1).toNat = i.toNat + 1 := by omega
            have h5 : i.toNat < ((rest.drop 1).take kk).length := by rw [HRD.out.1]; omega
            rw [e4, List.take_succ_eq_append_getElem h5, valF_snoc, ← h1.2.2]
            rw [List.getElem?_eq_getElem h5, h3, HY.out] at h2
            rw [show ((rest.drop 1).take kk)[i.toNat] = y from h2]
            omega
          case measure => simp [intOf]; omega
        · have c2b0 : decide (i < (kk : Int)) = false := decide_eq_false c2
          have HC2 := Aside0.mk c2
          clear c2
          go_wp2
          go_ret3
          have h1 := HI2.out
          have h2 := HC2.out
          have hl : (((rest.drop 1).take kk)).length ≤ i.toNat := by rw [List.length_take]; omega
          rw [h1.2.2, List.take_of_length_le hl]
          exact ⟨by simp, rfl⟩
    · have hd8 : ((kk : Int) == 8) = false := beq_eq_false_iff_ne.mpr hx8
      clear h4 hx8
      go_enter Tryd.func63, Tryd.ntmps63
      go_wp2
      go_loop [2, 63] (fun v2 v63 => ∃ (x2 i : Int), v2 = .int .i64 x2 ∧ v63 = .int .i64 i ∧ Aside0 (0 ≤ i ∧ i ≤ (kk : Int) ∧ x2 = valF (((rest.drop 1).take kk).take i.toNat))) (fun _ v63 => kk - (intOf v63).toNat)
      case atStart => exact ⟨0, 0, rfl, rfl, ⟨Int.le_refl _, by omega, rfl⟩⟩
      case round =>
        obtain ⟨x2, i, rfl, rfl, HI2⟩ := hrel
        by_cases c2 : i < (kk : Int)
        · have c2b0 : decide (i < (kk : Int)) = true := decide_eq_true c2
          have hi0 := HI2.out.1
          obtain ⟨hN0, hN1⟩ := HV.out i.toNat (by omega)
          have hcell := walk_cell HC.out i hi0 (by omega)
          obtain ⟨hy0, hy1⟩ := HRB.out (i + 1) (by omega) (by omega)
          have HRD := Aside0.mk (rd_drop rest kk i.toNat (by omega) (by omega))
          have e1 : ((i.toNat + 1 : Nat) : Int) = i + 1 := by omega
          have HE1 := Aside0.mk e1
          rw [← HI2.out.2.2] at hN0 hN1
          generalize hy : rd rest (i + 1) = y at hcell hy0 hy1
          have HY := Aside0.mk hy
          have HOR := Aside0.mk (or_key x2 y hN0 hN1 hy0 hy1)
          clear hy e1
          go_wp2
          go_round
          case rel =>
            have h1 := HI2.out
            have h2 := HRD.out.2
            have h3 := HE1.out
            refine ⟨x2 * 256 + y, i + 1, by rw [HOR.out], rfl, ⟨by omega, by omega, ?_⟩⟩
            have e4 : (i + 1).toNat = i.toNat + 1 := by omega
            have h5 : i.toNat < ((rest.drop 1).take kk).length := by rw [HRD.out.1]; omega
            rw [e4, List.take_succ_eq_append_getElem h5, valF_snoc, ← h1.2.2]
            rw [List.getElem?_eq_getElem h5, h3, HY.out] at h2
            rw [show ((rest.drop 1).take kk)[i.toNat] = y from h2]
            omega
          case measure => simp [intOf]; omega
        · have c2b0 : decide (i < (kk : Int)) = false := decide_eq_false c2
          have HC2 := Aside0.mk c2
          clear c2
          go_wp2
          go_ret3
          have h1 := HI2.out
          have h2 := HC2.out
          have hl : (((rest.drop 1).take kk)).length ≤ i.toNat := by rw [List.length_take]; omega
          rw [h1.2.2, List.take_of_length_le hl]
          exact ⟨by simp, rfl⟩
  · have hk0 : kk = 0 := by omega
    subst hk0
    have ez : valF ((rest.drop 1).take 0) = 0 := rfl
    rw [ez]
    clear h3 h4 h5 HV HRB HC
    have z1 : ((0 : Nat) : Int) = 0 := rfl
    rw [z1] at hx0 hd hd2 ⊢
    have hne : rest ≠ [] := by intro h; rw [h] at h0; exact absurd h0 (by decide)
    by_cases hc1 : c = 1
    · subst hc1
      go_enter Tryd.func63, Tryd.ntmps63
      go_wp2
      go_loop [2, 63] (fun v2 v63 => v2 = .int .i64 0 ∧ v63 = .int .i64 0) (fun _ _ => 0)
      case atStart => exact ⟨rfl, rfl⟩
      case round =>
        obtain ⟨rfl, rfl⟩ := hrel
        go_wp2
        go_ret3
        exact ⟨by simp, rfl⟩
    · have hc2 : (1 : Int) < (c : Int) := by omega
      go_enter Tryd.func63, Tryd.ntmps63
      go_wp2
      go_loop [2, 63] (fun v2 v63 => v2 = .int .i64 0 ∧ v63 = .int .i64 0) (fun _ _ => 0)
      case atStart => exact ⟨rfl, rfl⟩
      case round =>
        obtain ⟨rfl, rfl⟩ := hrel
        go_wp2
        go_ret3
        exact ⟨by simp, rfl⟩

end Go.Proofs.YtmokngiokdffdaaDoor.P

/-
  tally's reader: Num.
-/
namespace Go.Proofs.YtmokngiokdffdaaDoor.P
open Go.RowKit Go.Proofs.YtmokngiokdffdaaDoorW.PrintWords Go.Proofs.YtmokngiokdffdaaDoorW.PrintLast Go.Proofs.YtmokngiokdffdaaDoorW.PrintMore
set_option linter.unusedVariables false

theorem number_any (w0 w : World) (g : Nat) (rest : List Int) (e : Int) (hI : RdP w0 w g rest e) :
    Calls Tryd.prog 63 #[.pointer (some ⟨g, 0, none⟩)] w fun en w' => en = .returned (.tuple #[.int .i64 (numF rest).1, .int .i64 (numF rest).2.1, .int .i64 (numF rest).2.2]) ∧ w' = w := by
  by_cases h0 : rest.length = 0
  · have : rest = [] := List.eq_nil_of_length_eq_zero h0
    subst this
    exact number_nil w0 w g e hI
  have h0' : 0 < rest.length := by omega
  have hb0 := rd_byte hI.byte 0 (by omega) (by omega)
  unfold numF
  rw [if_neg h0]
  by_cases h1 : 8 < rd rest 0
  · rw [if_pos h1]; exact number_big w0 w g rest e hI h0' h1
  rw [if_neg h1]
  by_cases h2 : (rest.length : Int) ≤ rd rest 0
  · rw [if_pos h2]; exact number_cut w0 w g rest e hI h0' (by omega) h2
  rw [if_neg h2]
  by_cases h3 : 0 < rd rest 0 ∧ rd rest 1 = 0
  · rw [if_pos h3]; exact number_zero w0 w g rest e hI h0' (by omega) (by omega) h3.1 h3.2
  rw [if_neg h3]
  by_cases h4 : rd rest 0 = 8 ∧ 127 < rd rest 1
  · rw [if_pos h4]; exact number_high w0 w g rest e hI h0' (by omega) h4.1 (fun h => h3 ⟨by omega, h⟩) h4.2
  rw [if_neg h4]
  exact number_ok w0 w g rest e hI h0' (by omega) (by omega) (fun h h' => h3 ⟨h, h'⟩) (fun h => by
    by_cases h5 : 127 < rd rest 1
    · exact absurd ⟨h, h5⟩ h4
    · omega)

/-- A number that is read: what it is, what is left, the error from then on. -/
def numS (rest : List Int) (e most : Int) : Int × List Int × Int :=
  if e ≠ 0 then (0, rest, e) else
  if (numF rest).2.2 ≠ 0 then (0, [], (numF rest).2.2) else
  if most < (numF rest).1 then (0, [], 3) else ((numF rest).1, rest.drop (numF rest).2.1.toNat, 0)

theorem numF_size {rest : List Int} (hb : ∀ x ∈ rest, 0 ≤ x ∧ x < 256) (h : (numF rest).2.2 = 0) : 0 < (numF rest).2.1 ∧ (numF rest).2.1 ≤ rest.length := by
  unfold numF at h ⊢
  by_cases h0 : rest.length = 0
  · rw [if_pos h0] at h; exact absurd h (by decide)
  have hb0 := rd_byte hb 0 (by omega) (by omega)
  rw [if_neg h0] at h ⊢
  split at h
  · exact absurd h (by decide)
  split at h
  · exact absurd h (by decide)
  split at h
  · exact absurd h (by decide)
  split at h
  · exact absurd h (by decide)
  rename_i h1 h2 h3 h4
  rw [if_neg h1, if_neg h2, if_neg h3, if_neg h4]
  exact ⟨by simp only; omega, by simp only; omega⟩

/-- What a call of Num leaves. -/
def NumR (w0 w : World) (g : Nat) (rest : List Int) (e most : Int) (en : Ending) (w' : World) : Prop :=
  en = .returned (.int .i64 (numS rest e most).1) ∧ RdP w0 w' g (numS rest e most).2.1 (numS rest e most).2.2 ∧ Kp g w w'

theorem Num_any (w0 w : World) (g : Nat) (rest : List Int) (e most : Int) (hI : RdP w0 w g rest e) :
    Calls Tryd.prog 56 #[.pointer (some ⟨g, 0, none⟩), .int .i64 most] w (NumR w0 w g rest e most) := by
  have HI := Aside0.mk hI
  unfold NumR
  by_cases he : e = 0
  · have hn : (e != 0) = false := by simp [he]
    subst he
    have hz := numF_size hI.byte
    have hs : numS rest 0 most = if (numF rest).2.2 ≠ 0 then (0, [], (numF rest).2.2) else if most < (numF rest).1 then (0, [], 3) else ((numF rest).1, rest.drop (numF rest).2.1.toNat, 0) := by
      unfold numS; rw [if_neg (fun h => h rfl)]
    rw [hs]
    clear hs
    have HN := Aside0.mk (number_any w0 w g rest 0 hI)
    rcases hq : numF rest with ⟨n, size, er⟩
    rw [hq] at hz
    have HNQ := Aside0.mk hq
    clear hI hq
    simp only at hz ⊢
    by_cases her : er = 0
    · have hz2 := hz her
      subst her
      rw [if_neg (fun h => h rfl)]
      by_cases hm : most < n
      · have hd : decide (most < n) = true := decide_eq_true hm
        rw [if_pos hm]
        clear hm hz hz2
        go_enter Tryd.func56, Tryd.ntmps56
        go_wp2_with (first | (go_at_call 58; refine (stopped_any w0 _ g rest 0 HI.out).mono ?_; rintro en w' ⟨rfl, rfl⟩) | (go_at_call 63; refine HN.out.mono ?_; rintro en w' ⟨rfl, rfl⟩; simp only [HNQ.out]) | (go_at_call 64; refine (fail_any w0 _ g rest 0 3 HI.out).mono ?_; rintro en w' ⟨rfl, hI', hK'⟩; have HI' := Aside0.mk hI'; have HK' := Aside0.mk hK'; clear hI' hK'))
        go_ret
        exact ⟨rfl, HI'.out, HK'.out⟩
      · have hd : decide (most < n) = false := decide_eq_false hm
        rw [if_neg hm]
        obtain ⟨k, rfl⟩ : ∃ k : Nat, size = (k : Int) := ⟨size.toNat, by omega⟩
        have HT := Aside0.mk (take_any w0 w g k rest 0 HI.out (by omega) (by omega))
        clear hm hz hz2
        go_enter Tryd.func56, Tryd.ntmps56
        go_wp2_with (first | (go_at_call 58; refine (stopped_any w0 _ g rest 0 HI.out).mono ?_; rintro en w' ⟨rfl, rfl⟩) | (go_at_call 63; refine HN.out.mono ?_; rintro en w' ⟨rfl, rfl⟩; simp only [HNQ.out]) | (go_at_call 65; refine HT.out.mono ?_; rintro en w' ⟨⟨v, rfl⟩, hI', hK'⟩; have HI' := Aside0.mk hI'; have HK' := Aside0.mk hK'; clear hI' hK'))
        go_ret
        exact ⟨rfl, HI'.out, HK'.out⟩
    · have h1 : (er == 0) = false := beq_eq_false_iff_ne.mpr her
      have h2 : (er != 0) = true := by simp [her]
      rw [if_pos her]
      clear her hz
      go_enter Tryd.func56, Tryd.ntmps56
      go_wp2_with (first | (go_at_call 58; refine (stopped_any w0 _ g rest 0 HI.out).mono ?_; rintro en w' ⟨rfl, rfl⟩) | (go_at_call 63; refine HN.out.mono ?_; rintro en w' ⟨rfl, rfl⟩; simp only [HNQ.out]) | (go_at_call 64; refine (fail_any w0 _ g rest 0 er HI.out).mono ?_; rintro en w' ⟨rfl, hI', hK'⟩; have HI' := Aside0.mk hI'; have HK' := Aside0.mk hK'; clear hI' hK'))
      go_ret
      exact ⟨rfl, HI'.out, HK'.out⟩
  · have hn : (e != 0) = true := by simp [he]
    have hs : numS rest e most = (0, rest, e) := by unfold numS; rw [if_pos he]
    rw [hs]
    clear hI he hs
    go_enter Tryd.func56, Tryd.ntmps56
    go_wp2_with (first | (go_at_call 58; refine (stopped_any w0 w g rest e HI.out).mono ?_; rintro en w' ⟨rfl, rfl⟩))
    go_ret
    exact ⟨rfl, HI.out, Kp.refl _ _⟩

end Go.Proofs.YtmokngiokdffdaaDoor.P

/-
  window.Get.
-/
namespace Go.Proofs.YtmokngiokdffdaaDoor.P
open Go.RowKit Go.Proofs.YtmokngiokdffdaaDoorW.PrintWords Go.Proofs.YtmokngiokdffdaaDoorW.PrintLast Go.Proofs.YtmokngiokdffdaaDoorW.PrintMore
attribute [local go_sem high] eqA38
set_option linter.unusedVariables false

theorem RdP.grow {w0 w w' : World} {g : Nat} {rest : List Int} {e : Int} (h : RdP w0 w g rest e) (hb : Below w.heap.size w w') : RdP w0 w' g rest e := by
  obtain ⟨A, c, hb0, hc, hC⟩ := h.blk
  exact ⟨⟨A, c, (hb.block g (blk_lt hb0)).trans hb0, hc, hC⟩, h.far, below_step h.below hb, h.byte⟩
theorem RdP.drew {w0 w : World} {g : Nat} {rest : List Int} {e : Int} (h : RdP w0 w g rest e) : RdP w0 w.drew g rest e := ⟨h.blk, h.far, below_drew h.below, h.byte⟩
theorem RdP.store {w0 w : World} {g : Nat} {rest : List Int} {e : Int} (h : RdP w0 w g rest e) (k j : Nat) (v : Value) (hk : g ≠ k) (hf : w0.heap.size ≤ k) : RdP w0 (w.setCell ⟨k, j, none⟩ v) g rest e := by
  obtain ⟨A, c, hb0, hc, hC⟩ := h.blk
  exact ⟨⟨A, c, blk_far hb0 hk v, hc, hC⟩, h.far, h.below.setCell (p := ⟨k, j, none⟩) hf _, h.byte⟩
theorem RdP.lt {w0 w : World} {g : Nat} {rest : List Int} {e : Int} (h : RdP w0 w g rest e) : g < w.heap.size := by
  obtain ⟨A, c, hb0, hc, hC⟩ := h.blk
  exact blk_lt hb0
theorem Kp.blk {g i : Nat} {a b : World} {o : Obj} (h : Kp g a b) (hb : a.heap[i]? = some o) (hi : i ≠ g) : b.heap[i]? = some o := (h.2 i (blk_lt hb) hi).trans hb
theorem Kp.alloc {g : Nat} {a b : World} (h : Kp g a b) (o : Obj) : Kp g a (b.alloc o) := h.trans (Kp.below (below_alloc (Below.refl _ _) o))
theorem Kp.store {g k j : Nat} {a b : World} (h : Kp g a b) (v : Value) (hk : a.heap.size ≤ k) : Kp g a (b.setCell ⟨k, j, none⟩ v) :=
  ⟨by simpa using h.1, fun i hi hg => (Below.heap_setCell b ⟨k, j, none⟩ v i (by show i ≠ k; omega)).trans (h.2 i hi hg)⟩
theorem Kp.drew {g : Nat} {a b : World} (h : Kp g a b.drew) : Kp g a b := h

/-- The bits so far, what is left, the error: after k of Get's rounds. -/
def getK (rest : List Int) (e : Int) : Nat → Int × List Int × Int
  | 0 => (0, rest, e)
  | k + 1 => (bits .or .u64 (IntKind.u64.wrap ((getK rest e k).1 * 4294967296)) (IntKind.u64.wrap (numS (getK rest e k).2.1 (getK rest e k).2.2 4294967295).1),
      (numS (getK rest e k).2.1 (getK rest e k).2.2 4294967295).2.1, (numS (getK rest e k).2.1 (getK rest e k).2.2 4294967295).2.2)

def getR (B b e : Int) (gd : Bool) : Int × Int := if e = 0 ∧ gd = true then (B, b) else (0, 0)

set_option maxRecDepth 100000 in
set_option maxHeartbeats 8000000 in
theorem Get_any (w0 w : World) (g : Nat) (rest : List Int) (e : Int) (hI : RdP w0 w g rest e) (B : Int) (rest1 : List Int) (e1 : Int) (hN1 : numS rest e 1099511627777 = (B, rest1, e1))
    (b3 : Int) (rest3 : List Int) (e3 : Int) (h3 : getK rest1 e1 2 = (b3, rest3, e3)) (gd : Bool) (hG : window_Good.f B b3 = some gd) :
    Calls Tryd.prog 38 #[.pointer (some ⟨g, 0, none⟩)] w fun en w' => en = .returned (.agg #[.int .i64 (getR B b3 e3 gd).1, .int .u64 (getR B b3 e3 gd).2]) ∧ RdP w0 w' g rest3 e3 ∧ Kp g w w' := by
  have H3 := Aside0.mk h3
  have HG := Aside0.mk hG
  clear h3 hG
  have HI := Aside0.mk (hI.grow (below_alloc (Below.refl w.heap.size w) (.cells #[.int .i64 0, .int .u64 0] 38)))
  have HL := Aside0.mk hI.lt
  have HF := Aside0.mk hI.far
  have hu38 := Tryd.underlying38
  have H1 : Aside0 (∀ W, RdP w0 W g rest e → Calls Tryd.prog 56 #[.pointer (some ⟨g, 0, none⟩), .int .i64 1099511627777] W fun en w' => en = .returned (.int .i64 B) ∧ RdP w0 w' g rest1 e1 ∧ Kp g W w') :=
    Aside0.mk (fun W hW => (Num_any w0 W g rest e 1099511627777 hW).mono (by intro en w' h; unfold NumR at h; rw [hN1] at h; exact h))
  clear hN1 hI
  go_enter Tryd.func38, Tryd.ntmps38
  go_wp2_with fail
  refine (H1.out _ HI.out).mono ?_
  rintro en w1 ⟨rfl, hI1, hK1⟩
  have HI1 := Aside0.mk (hI1.grow (below_alloc (Below.refl w1.heap.size w1) (.cells #[.int .i64 B, .int .u64 0] 38)))
  have HGR := Aside0.mk (blk_alloc (hK1.blk (World.alloc_heap_new w (.cells #[.int .i64 0, .int .u64 0] 38)) (Nat.ne_of_gt HL.out)) (.cells #[.int .i64 B, .int .u64 0] 38))
  have HGW := Aside0.mk (World.alloc_heap_new w1 (.cells #[.int .i64 B, .int .u64 0] 38))
  have HK1 := Aside0.mk (((Kp.refl g w).alloc _).trans (hK1.alloc (.cells #[.int .i64 B, .int .u64 0] 38)))
  have hgs : w.heap.size < w1.heap.size := by have := hK1.1; simp at this; omega
  clear hI1 hK1 HI H1
  go_wp2
  generalize (w1.alloc (.cells #[.int .i64 B, .int .u64 0] 38)) = W2 at HI1 HGR HGW HK1 ⊢
  go_loopw [7] (fun v7 wr => ∃ k : Nat, k ≤ 2 ∧ v7 = .int .i64 k ∧ Aside0 (RdP w0 wr g (getK rest1 e1 k).2.1 (getK rest1 e1 k).2.2 ∧ Kp g w wr ∧ wr.heap[w.heap.size]? = some (.cells #[.int .i64 0, .int .u64 0] 38 (0, 0)) ∧ wr.heap[w1.heap.size]? = some (.cells #[.int .i64 B, .int .u64 (getK rest1 e1 k).1] 38 (0, 0))))
    (fun v7 _ => 2 - (intOf v7).toNat)
  case atStart => exact ⟨0, by omega, rfl, ⟨HI1.out, HK1.out, HGR.out, HGW.out⟩⟩
  case round =>
    obtain ⟨k, hk, rfl, HS⟩ := hrel
    clear HI1 HK1 HGR HGW
    rcases hg : getK rest1 e1 k with ⟨b, rs, er⟩
    rcases hn : numS rs er 4294967295 with ⟨x, rs2, er2⟩
    have hs : getK rest1 e1 (k + 1) = (bits .or .u64 (IntKind.u64.wrap (b * 4294967296)) (IntKind.u64.wrap x), rs2, er2) := by
      unfold getK; rw [hg]; simp only; rw [hn]
    have HSS := Aside0.mk hs
    have HGG := Aside0.mk hg
    have HN : Aside0 (∀ W, RdP w0 W g rs er → Calls Tryd.prog 56 #[.pointer (some ⟨g, 0, none⟩), .int .i64 4294967295] W fun en w' => en = .returned (.int .i64 x) ∧ RdP w0 w' g rs2 er2 ∧ Kp g W w') :=
      Aside0.mk (fun W hW => (Num_any w0 W g rs er 4294967295 hW).mono (by intro en w' h; unfold NumR at h; rw [hn] at h; exact h))
    have hS := HS.out
    rw [hg] at hS
    simp only at hS
    clear HS hs hn hg
    have HI := Aside0.mk hS.1
    have HK := Aside0.mk hS.2.1
    have HGR := Aside0.mk hS.2.2.1
    have HGW := Aside0.mk hS.2.2.2
    clear hS
    by_cases hk2 : k = 2
    · subst hk2
      have hz : (rs, er, b) = (rest3, e3, b3) := by
        have := HGG.out.symm.trans H3.out
        cases this; rfl
      cases hz
      clear HSS HGG H3 HN
      have q0 : wr.cell? ⟨w1.heap.size, 0, none⟩ = some (.int .i64 B) := (blk_cell HGW.out 0).trans rfl
      have q1 : wr.cell? ⟨w1.heap.size, 1, none⟩ = some (.int .u64 b3) := (blk_cell HGW.out 1).trans rfl
      have p0 : wr.cell? ⟨w.heap.size, 0, none⟩ = some (.int .i64 0) := (blk_cell HGR.out 0).trans rfl
      have p1 : wr.cell? ⟨w.heap.size, 1, none⟩ = some (.int .u64 0) := (blk_cell HGR.out 1).trans rfl
      have f0 := blk_frozen HGR.out 0
      have f1 := blk_frozen HGR.out 1
      by_cases hee : e3 = 0
      · have hd : (e3 != 0) = false := by simp [hee]
        have hB1 : gd = true → (B == 0) = false := by
          intro hgd
          subst hgd
          have h1 := HG.out
          unfold window_Good.f at h1
          by_cases hB : B < 1
          · rw [if_pos hB] at h1; cases h1
          · exact beq_eq_false_iff_ne.mpr (by omega)
        cases gd with
        | false =>
          have hr : getR B b3 e3 false = (0, 0) := by unfold getR; rw [if_neg (by simp)]
          have HRR := Aside0.mk hr
          clear hr hee hB1
          go_wp2_with (first | (go_at_call 40; refine (Err_any w0 _ g rest3 e3 HI.out).mono ?_; rintro en w' ⟨rfl, rfl⟩) | (go_at_call 26; refine (window_Good.calls B b3 false _ HG.out).mono ?_; rintro en w5 ⟨rfl, hbl⟩; have q0' := pw_cell_below hbl q0; have q1' := pw_cell_below hbl q1; have HI' := Aside0.mk (HI.out.grow hbl); have HK' := Aside0.mk (HK.out.trans (Kp.below hbl)); have HGR' := Aside0.mk ((hbl.block _ (blk_lt HGR.out)).trans HGR.out); clear q0 q1 p0 p1 f0 f1 hbl HI HK HGR; have HI := HI'; have HK := HK'; have HGR := HGR'; clear HI' HK' HGR'; have f0 := blk_frozen HGR.out 0; have f1 := blk_frozen HGR.out 1; have p0 : w5.cell? ⟨w.heap.size, 0, none⟩ = some (.int .i64 0) := (blk_cell HGR.out 0).trans rfl; have p1 : w5.cell? ⟨w.heap.size, 1, none⟩ = some (.int .u64 0) := (blk_cell HGR.out 1).trans rfl))
          refine bodyPost_ret (results_cell_row rfl _ _ w.heap.size 38 #[.int .i64 0, .int .u64 0] (0, 0) _ rfl (by have := blk_set (blk_set HGR.out 0 (.int .i64 0)) 1 (.int .u64 0); simpa using this) Tryd.underlying38 rfl (by kernel_rfl)) rfl ?_
          rw [HRR.out]
          exact ⟨rfl, (HI.out.store _ _ _ (by have := HL.out; omega) (by have := HF.out; have := HL.out; omega)).store _ _ _ (by have := HL.out; omega) (by have := HF.out; have := HL.out; omega), (HK.out.store _ (Nat.le_refl _)).store _ (Nat.le_refl _)⟩
        | true =>
          have hr : getR B b3 e3 true = (B, b3) := by unfold getR; rw [if_pos ⟨hee, rfl⟩]
          have hB2 := hB1 rfl
          have HRR := Aside0.mk hr
          clear hr hee hB1
          go_wp2_with (first | (go_at_call 40; refine (Err_any w0 _ g rest3 e3 HI.out).mono ?_; rintro en w' ⟨rfl, rfl⟩) | (go_at_call 26; refine (window_Good.calls B b3 true _ HG.out).mono ?_; rintro en w5 ⟨rfl, hbl⟩; have q0' := pw_cell_below hbl q0; have q1' := pw_cell_below hbl q1; have HI' := Aside0.mk (HI.out.grow hbl); have HK' := Aside0.mk (HK.out.trans (Kp.below hbl)); have HGR' := Aside0.mk ((hbl.block _ (blk_lt HGR.out)).trans HGR.out); clear q0 q1 p0 p1 f0 f1 hbl HI HK HGR; have HI := HI'; have HK := HK'; have HGR := HGR'; clear HI' HK' HGR'; have f0 := blk_frozen HGR.out 0; have f1 := blk_frozen HGR.out 1; have p0 : w5.cell? ⟨w.heap.size, 0, none⟩ = some (.int .i64 0) := (blk_cell HGR.out 0).trans rfl; have p1 : w5.cell? ⟨w.heap.size, 1, none⟩ = some (.int .u64 0) := (blk_cell HGR.out 1).trans rfl))
          refine bodyPost_ret (results_cell_row rfl _ _ w.heap.size 38 #[.int .i64 B, .int .u64 b3] (0, 0) _ rfl (by have := blk_set (blk_set HGR.out 0 (.int .i64 B)) 1 (.int .u64 b3); simpa using this) Tryd.underlying38 rfl (by kernel_rfl)) rfl ?_
          rw [HRR.out]
          exact ⟨rfl, (HI.out.store _ _ _ (by have := HL.out; omega) (by have := HF.out; have := HL.out; omega)).store _ _ _ (by have := HL.out; omega) (by have := HF.out; have := HL.out; omega), (HK.out.store _ (Nat.le_refl _)).store _ (Nat.le_refl _)⟩
      · have hd : (e3 != 0) = true := by simp [hee]
        have hr : getR B b3 e3 gd = (0, 0) := by unfold getR; rw [if_neg (fun h => hee h.1)]
        have HRR := Aside0.mk hr
        clear hr hee
        go_wp2_with (first | (go_at_call 40; refine (Err_any w0 _ g rest3 e3 HI.out).mono ?_; rintro en w' ⟨rfl, rfl⟩) | (go_at_call 26; refine (window_Good.calls B b3 false _ HG.out).mono ?_; rintro en w5 ⟨rfl, hbl⟩; have q0' := pw_cell_below hbl q0; have q1' := pw_cell_below hbl q1; have HI' := Aside0.mk (HI.out.grow hbl); have HK' := Aside0.mk (HK.out.trans (Kp.below hbl)); have HGR' := Aside0.mk ((hbl.block _ (blk_lt HGR.out)).trans HGR.out); clear q0 q1 p0 p1 f0 f1 hbl HI HK HGR; have HI := HI'; have HK := HK'; have HGR := HGR'; clear HI' HK' HGR'; have f0 := blk_frozen HGR.out 0; have f1 := blk_frozen HGR.out 1; have p0 : w5.cell? ⟨w.heap.size, 0, none⟩ = some (.int .i64 0) := (blk_cell HGR.out 0).trans rfl; have p1 : w5.cell? ⟨w.heap.size, 1, none⟩ = some (.int .u64 0) := (blk_cell HGR.out 1).trans rfl))
        refine bodyPost_ret (results_cell_row rfl _ _ w.heap.size 38 #[.int .i64 0, .int .u64 0] (0, 0) _ rfl (by have := blk_set (blk_set HGR.out 0 (.int .i64 0)) 1 (.int .u64 0); simpa using this) Tryd.underlying38 rfl (by kernel_rfl)) rfl ?_
        rw [HRR.out]
        exact ⟨rfl, (HI.out.store _ _ _ (by have := HL.out; omega) (by have := HF.out; have := HL.out; omega)).store _ _ _ (by have := HL.out; omega) (by have := HF.out; have := HL.out; omega), (HK.out.store _ (Nat.le_refl _)).store _ (Nat.le_refl _)⟩
    · have hk3 : (k : Int) < 2 := by omega
      have q1 : wr.cell? ⟨w1.heap.size, 1, none⟩ = some (.int .u64 b) := (blk_cell HGW.out 1).trans rfl
      clear hk2
      go_wp2_with fail
      go_region_with (first
          | (go_at_call 56; refine (HN.out _ (by first | exact HI.out | exact HI.out.drew)).mono ?_; rintro en w2 ⟨rfl, hI2, hK2⟩; have HI2 := Aside0.mk hI2; have HK2 := Aside0.mk (HK.out.trans hK2); have HGR2 := Aside0.mk (hK2.blk HGR.out (Nat.ne_of_gt HL.out)); have HGW2 := Aside0.mk (hK2.blk HGW.out (by have := HL.out; omega)); clear q1; have q1 : w2.cell? ⟨w1.heap.size, 1, none⟩ = some (.int .u64 b) := (blk_cell HGW2.out 1).trans rfl; have f1 := blk_frozen HGW2.out 1; clear HI HK HGR HGW hI2 hK2))
      all_goals
        go_wp2
        go_roundw
        case rel =>
          refine ⟨k + 1, by omega, by go_num, ⟨?_, ?_, ?_, ?_⟩⟩
          · rw [HSS.out]; exact HI2.out.store _ _ _ (by have := HL.out; omega) (by have := HF.out; have := HL.out; omega)
          · exact HK2.out.store _ (by omega)
          · exact blk_far HGR2.out (by show w.heap.size ≠ w1.heap.size; omega) _
          · rw [HSS.out]; have := blk_set HGW2.out 1 (.int .u64 (bits .or .u64 (IntKind.u64.wrap (b * 4294967296)) (IntKind.u64.wrap x))); simpa using this
        case measure => simp [intOf]; omega

end Go.Proofs.YtmokngiokdffdaaDoor.P

/-
  tally.Read.
-/
namespace Go.Proofs.YtmokngiokdffdaaDoor.P
open Go.RowKit Go.Proofs.YtmokngiokdffdaaDoorW.PrintWords Go.Proofs.YtmokngiokdffdaaDoorW.PrintLast Go.Proofs.YtmokngiokdffdaaDoorW.PrintMore
set_option linter.unusedVariables false

set_option maxRecDepth 100000 in
set_option maxHeartbeats 8000000 in
theorem Read_any (A0 : Option Addr) (c0 : Nat) (l0 : List Int) (w : World) (hr0 : Kd.C (Kd.int .u8) w A0 l0.length l0) (hl : l0.length < 1000000) (hby : ∀ x ∈ l0, 0 ≤ x ∧ x < 256) :
    Calls Tryd.prog 34 #[.slice A0 l0.length c0] w fun en w' => ∃ g w0, en = .returned (.pointer (some ⟨g, 0, none⟩)) ∧ RdP w0 w' g l0 0 ∧ Below w.heap.size w w0 := by
  have HB := Aside0.mk (Below.refl w.heap.size w)
  have HR0 := Aside0.mk hr0
  have HBY := Aside0.mk hby
  clear hr0 hby
  go_enter Tryd.func34, Tryd.ntmps34
  go_wp2_with (first
    | ((with_reducible refine gate_dst (N := 3) rfl ?_); refine Kd.R_lit (Kd.int .u8) _ 5 ?hg (N := 3) ?hd (xs := ([] : List Int)) (inner := []) (ok := fun _ => True) (okp := fun _ => True) ?hr ?hp (fun _ hk => hk) trivial (Below.refl _ _) (Nat.le_refl _) (by simp) ?_; (case hd => rfl); (case hg => rfl); (case hr => first | (go_simp; done) | (go_simp; rfl)); (case hp => exact (Reps.none _ _)); intro v3 w3 ho3 hb hg_ hnew_; clear hg_ hnew_; have HO := Aside0.mk (Kd.R_lower ho3 (below_size HB.out)); have HB' := Aside0.mk (below_step HB.out hb); clear HB ho3 hb; have HB := HB'; clear HB')
    | ((with_reducible refine gate_builtin (b := .append) (xs := #[.tmp 3, .tmp 4]) rfl ?_); at_builtin; refine Kd.R_append_rows (Kd.int .u8) (w0 := w) w.heap.size rfl (.tmp 3) (.tmp 4) 54 5 (.int .u8 0) 1 rfl Tryd.underlying54 info5 rfl (by decide) (by omega) v3 ([] : List Int) l0 _ _ _ (fun _ => True) (fun _ => False) rfl rfl ?aO ?aR (fun _ _ h => h) (fun _ h => h.elim) ?aF ?aB ?aS ?aL ?_; (case aR => exact (Kd.C_below HR0.out HB.out)); (case aB => exact HB.out); (case aF => exact (fun _ _ => trivial)); (case aO => exact HO.out); (case aS => exact (below_size HB.out)); (case aL => simp; omega); intro v5 w5 ho hb hg hat; obtain ⟨A5, c5, rfl, hc5, hC5⟩ := Kd.R_reads ho; have HC5 := Aside0.mk hC5; have HD5 := Aside0.mk hc5; have HB' := Aside0.mk hb; clear HB HO hC5 hc5 ho hb hg hat; have HB := HB'; clear HB'))
  go_ret
  refine ⟨w5.heap.size, w5, rfl, ⟨⟨A5, c5, ?_, ?_, ?_⟩, Nat.le_refl _, below_alloc (Below.refl _ _) _, HBY.out⟩, HB.out⟩
  · exact World.alloc_heap_new _ _
  · exact HD5.out
  · exact HC5.out

set_option maxRecDepth 100000 in
set_option maxHeartbeats 8000000 in
theorem RRead_any (A0 : Option Addr) (c0 : Nat) (l0 : List Int) (w : World) (hr0 : Kd.C (Kd.int .u8) w A0 l0.length l0) (hl : l0.length < 1000000) :
    Calls Tryd.prog 35 #[.slice A0 l0.length c0] w fun en w' => ∃ g w0, en = .returned (.pointer (some ⟨g, 0, none⟩)) ∧ IsS64 w0 w' g l0 0 0 ∧ Below w0.heap.size w0 w' ∧ Below w.heap.size w w0 := by
  have HB := Aside0.mk (Below.refl w.heap.size w)
  have HR0 := Aside0.mk hr0
  clear hr0
  go_enter Tryd.func35, Tryd.ntmps35
  go_wp2_with (first
    | ((with_reducible refine gate_dst (N := 3) rfl ?_); refine Kd.R_lit (Kd.int .u8) _ 5 ?hg (N := 3) ?hd (xs := ([] : List Int)) (inner := []) (ok := fun _ => True) (okp := fun _ => True) ?hr ?hp (fun _ hk => hk) trivial (Below.refl _ _) (Nat.le_refl _) (by simp) ?_; (case hd => rfl); (case hg => rfl); (case hr => first | (go_simp; done) | (go_simp; rfl)); (case hp => exact (Reps.none _ _)); intro v3 w3 ho3 hb hg_ hnew_; clear hg_ hnew_; have HO := Aside0.mk (Kd.R_lower ho3 (below_size HB.out)); have HB' := Aside0.mk (below_step HB.out hb); clear HB ho3 hb; have HB := HB'; clear HB')
    | ((with_reducible refine gate_builtin (b := .append) (xs := #[.tmp 3, .tmp 4]) rfl ?_); at_builtin; refine Kd.R_append_rows (Kd.int .u8) (w0 := w) w.heap.size rfl (.tmp 3) (.tmp 4) 54 5 (.int .u8 0) 1 rfl Tryd.underlying54 info5 rfl (by decide) (by omega) v3 ([] : List Int) l0 _ _ _ (fun _ => True) (fun _ => False) rfl rfl ?aO ?aR (fun _ _ h => h) (fun _ h => h.elim) ?aF ?aB ?aS ?aL ?_; (case aR => exact (Kd.C_below HR0.out HB.out)); (case aB => exact HB.out); (case aF => exact (fun _ _ => trivial)); (case aO => exact HO.out); (case aS => exact (below_size HB.out)); (case aL => simp; omega); intro v5 w5 ho hb hg hat; obtain ⟨A5, c5, rfl, hc5, hC5⟩ := Kd.R_reads ho; have HC5 := Aside0.mk hC5; have HD5 := Aside0.mk hc5; have HB' := Aside0.mk hb; clear HB HO hC5 hc5 ho hb hg hat; have HB := HB'; clear HB'))
  go_ret
  exact ⟨w5.heap.size, w5, rfl, IsS64.new w5 w5 A5 c5 l0 0 0 (Below.refl _ _) HC5.out, below_alloc (Below.refl _ _) _, HB.out⟩

end Go.Proofs.YtmokngiokdffdaaDoor.P

/-
  Plain law: what Put lays is what the reader reads.
-/
namespace Go.Proofs.YtmokngiokdffdaaDoor.P
open Go.RowKit Go.Proofs.YtmokngiokdffdaaDoorW.PrintWords Go.Proofs.YtmokngiokdffdaaDoorW.PrintLast Go.Proofs.YtmokngiokdffdaaDoorW.PrintMore
set_option linter.unusedVariables false

theorem valF_beD (k : Nat) : ∀ n, n < 256 ^ k → valF (beD n k) = (n : Int) := by
  induction k with
  | zero => intro n h; simp at h; subst h; rfl
  | succ k ih =>
    intro n h
    rw [beD_succ, valF_snoc, ih (n / 256) (by rw [Nat.pow_succ] at h; omega)]
    omega
theorem dg_ge (f : Nat) : ∀ n, dg f n ≠ 0 → 256 ^ (dg f n - 1) ≤ n := by
  induction f with
  | zero => intro n h; exact absurd rfl h
  | succ f ih =>
    intro n h
    unfold dg at h ⊢
    by_cases h0 : n = 0
    · rw [if_pos h0] at h; exact absurd rfl h
    · rw [if_neg h0]
      have e : 1 + dg f (n / 256) - 1 = dg f (n / 256) := by omega
      rw [e]
      by_cases h1 : dg f (n / 256) = 0
      · rw [h1]; simp; omega
      · have h2 := ih (n / 256) h1
        obtain ⟨j, hj⟩ : ∃ j, dg f (n / 256) = j + 1 := ⟨dg f (n / 256) - 1, by omega⟩
        rw [hj] at h2 ⊢
        simp only [Nat.add_sub_cancel] at h2
        rw [Nat.pow_succ]; omega

theorem rd_append_lt (l t : List Int) (i : Nat) (h : i < l.length) : rd (l ++ t) (i : Int) = rd l (i : Int) := by
  rw [rd_nat (l ++ t) i (by rw [List.length_append]; omega), rd_nat l i h, List.getElem_append_left h]

theorem numF_putB (n : Nat) (hn : n < 9223372036854775808) (t : List Int) : numF (putB n ++ t) = ((n : Int), 1 + ((dg 8 n : Nat) : Int), 0) := by
  obtain ⟨h8, hlt⟩ := dg_le 8 n (Nat.lt_trans hn (by decide))
  have hge := dg_ge 8 n
  generalize hk : dg 8 n = k at h8 hlt hge
  have hpl : (putB n).length = k + 1 := by unfold putB; rw [List.length_cons, beD_length, hk]
  have h0 : rd (putB n ++ t) 0 = (k : Int) := by
    have := rd_append_lt (putB n) t 0 (by omega)
    have e : ((0 : Nat) : Int) = 0 := rfl
    rw [e] at this
    rw [this]
    have h2 := rd_nat (putB n) 0 (by omega)
    rw [e] at h2
    rw [h2]; unfold putB; simp [hk]
  have h1 : 0 < k → rd (putB n ++ t) 1 = ((n / 256 ^ (k - 1) % 256 : Nat) : Int) := by
    intro hk0
    have := rd_append_lt (putB n) t 1 (by omega)
    have e : ((1 : Nat) : Int) = 1 := rfl
    rw [e] at this
    rw [this]
    have h2 := rd_nat (putB n) 1 (by omega)
    rw [e] at h2
    rw [h2]
    have h3 := beD_get n k 0 hk0
    have h4 : (putB n)[1]? = (beD n k)[0]? := by unfold putB; rw [hk]; rfl
    rw [h3, List.getElem?_eq_getElem (by omega)] at h4
    rw [Option.some.inj h4, Nat.sub_zero]
  have hd : 0 < k → 0 < n / 256 ^ (k - 1) ∧ n / 256 ^ (k - 1) < 256 := by
    intro hk0
    have h2 := hge (by omega)
    obtain ⟨j, rfl⟩ : ∃ j, k = j + 1 := ⟨k - 1, by omega⟩
    simp only [Nat.add_sub_cancel] at h2 ⊢
    have hp : 0 < 256 ^ j := Nat.pow_pos (by decide)
    refine ⟨Nat.div_pos h2 hp, ?_⟩
    rw [Nat.div_lt_iff_lt_mul hp, Nat.mul_comm, ← Nat.pow_succ]; exact hlt
  have hd8 : k = 8 → n / 256 ^ (k - 1) ≤ 127 := by
    rintro rfl
    have : (256 : Nat) ^ (8 - 1) = 72057594037927936 := by decide
    rw [this]; omega
  have hd2 : 0 < k → n / 256 ^ (k - 1) % 256 = n / 256 ^ (k - 1) := fun h => Nat.mod_eq_of_lt (hd h).2
  have htk : ((putB n ++ t).drop 1).take (k : Int).toNat = beD n k := by
    have : (putB n ++ t).drop 1 = beD n k ++ t := by unfold putB; rw [hk]; rfl
    rw [this, Int.toNat_natCast, List.take_append_of_le_length (by rw [beD_length]; exact Nat.le_refl _), List.take_of_length_le (by rw [beD_length]; exact Nat.le_refl _)]
  unfold numF
  rw [h0, htk, valF_beD k n hlt]
  have hL : (putB n ++ t).length = k + 1 + t.length := by rw [List.length_append, hpl]
  rw [if_neg (by omega), if_neg (by omega), if_neg (by omega), if_neg, if_neg]
  · rintro ⟨ha, hb⟩
    have h9 : 0 < k := by omega
    rw [h1 h9, hd2 h9] at hb
    have := hd8 (by omega)
    omega
  · rintro ⟨ha, hb⟩
    have h9 : 0 < k := by omega
    rw [h1 h9, hd2 h9] at hb
    have := (hd h9).1
    omega

theorem drop_putB (n : Nat) (hn : n < 9223372036854775808) (t : List Int) : (putB n ++ t).drop (1 + ((dg 8 n : Nat) : Int)).toNat = t := by
  have hpl : (putB n).length = dg 8 n + 1 := by unfold putB; rw [List.length_cons, beD_length]
  have e : (1 + ((dg 8 n : Nat) : Int)).toNat = (putB n).length := by omega
  rw [e, List.drop_left]

theorem numS_putB (n : Nat) (most : Int) (hn : n < 9223372036854775808) (hm : (n : Int) ≤ most) (t : List Int) : numS (putB n ++ t) 0 most = ((n : Int), t, 0) := by
  unfold numS
  rw [numF_putB n hn t]
  simp only
  rw [if_neg (fun h => h rfl), if_neg (fun h => h rfl), if_neg (by omega), drop_putB n hn t]

theorem u64_of_lt (a : Int) (h0 : 0 ≤ a) (h1 : a < 18446744073709551616) : IntKind.u64.wrap a = a := by rw [IntKind.wrap_u64]; omega

theorem or_two (hi lo : Nat) (h1 : hi < 4294967296) (h2 : lo < 4294967296) : bits .or .u64 (IntKind.u64.wrap ((hi : Int) * 4294967296)) (IntKind.u64.wrap (lo : Int)) = ((hi * 4294967296 + lo : Nat) : Int) := by
  rw [u64_of_lt _ (by omega) (by omega), u64_of_lt _ (by omega) (by omega)]
  have := bits_join .u64 64 (by decide) (fun n a b => by rw [IntKind.wrap_u64]; omega) 32 ((hi : Int) * 4294967296) (lo : Int) (by omega) (by omega) (by omega) (by omega) (by omega) (by omega)
  rw [this]; omega

theorem getK_two (r1 : List Int) (e1 : Int) (hi lo : Nat) (r2 r3 : List Int) (e2 e3 : Int) (h1 : hi < 4294967296) (h2 : lo < 4294967296) (hn1 : numS r1 e1 4294967295 = ((hi : Int), r2, e2)) (hn2 : numS r2 e2 4294967295 = ((lo : Int), r3, e3)) :
    getK r1 e1 2 = (((hi * 4294967296 + lo : Nat) : Int), r3, e3) := by
  have h3 := or_two 0 hi (by decide) h1
  have h4 := or_two hi lo h1 h2
  have e0 : ((0 : Nat) : Int) = 0 := rfl
  rw [e0] at h3
  have g1 : getK r1 e1 1 = ((hi : Int), r2, e2) := by
    unfold getK
    unfold getK
    simp only [hn1]
    rw [h3]; simp
  unfold getK
  simp only [g1, hn2]
  rw [h4]

/-- A good window that was put, with bytes behind it, is read as it was put. -/
theorem back_reads (B m : Nat) (t : List Int) (hB : B ≤ 1099511627777) (hm : m < 2 ^ 64) :
    ∃ r1, numS (putW [] (B : Int) m ++ t) 0 1099511627777 = ((B : Int), r1, 0) ∧ getK r1 0 2 = ((m : Int), t, 0) := by
  have e : putW [] (B : Int) m ++ t = putB B ++ (putB (m / 4294967296) ++ (putB (m % 4294967296) ++ t)) := by
    unfold putW putN
    rw [if_neg (by omega), Int.toNat_natCast]
    simp
  rw [e]
  refine ⟨_, numS_putB B _ (by omega) (by omega) _, ?_⟩
  rw [getK_two _ 0 (m / 4294967296) (m % 4294967296) _ _ 0 0 (by omega) (by omega) (numS_putB _ _ (by omega) (by omega) _) (numS_putB _ _ (by omega) (by omega) _)]
  have : m / 4294967296 * 4294967296 + m % 4294967296 = m := by omega
  rw [this]

theorem putB_byte (n : Nat) (hn : n < 9223372036854775808) : ∀ x ∈ putB n, 0 ≤ x ∧ x < 256 := by
  intro x hx
  have h8 := (dg_le 8 n (Nat.lt_trans hn (by decide))).1
  unfold putB at hx
  rcases List.mem_cons.1 hx with rfl | hx
  · omega
  · unfold beD at hx
    obtain ⟨i, _, rfl⟩ := List.mem_map.1 hx
    omega
theorem putW_byte (l : List Int) (B : Int) (m : Nat) (hB : B < 9223372036854775808) (hm : m < 2 ^ 64) (hl : ∀ x ∈ l, 0 ≤ x ∧ x < 256) : ∀ x ∈ putW l B m, 0 ≤ x ∧ x < 256 := by
  intro x hx
  unfold putW putN at hx
  rcases List.mem_append.1 hx with hx | hx
  · rcases List.mem_append.1 hx with hx | hx
    · split at hx
      · exact hl x hx
      · rcases List.mem_append.1 hx with hx | hx
        · exact hl x hx
        · exact putB_byte _ (by omega) x hx
    · exact putB_byte _ (by omega) x hx
  · exact putB_byte _ (by omega) x hx
theorem putW_length (l : List Int) (B : Int) (m : Nat) (hB : B < 9223372036854775808) (hm : m < 2 ^ 64) : (putW l B m).length ≤ l.length + 27 := by
  have h1 := putB_length B.toNat (by omega)
  have h2 := putB_length (m / 4294967296) (by omega)
  have h3 := putB_length (m % 4294967296) (by omega)
  unfold putW putN
  split <;> simp only [List.length_append] <;> omega

end Go.Proofs.YtmokngiokdffdaaDoor.P
