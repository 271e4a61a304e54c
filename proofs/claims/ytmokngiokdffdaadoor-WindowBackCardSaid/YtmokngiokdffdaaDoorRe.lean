/-
  tally's reader: number, fail, take, Num.
-/
import Derived.Test.YtmokngiokdffdaaDoorRd
namespace Go.Proofs.YtmokngiokdffdaaDoor.P
open Go.RowKit Go.Proofs.YtmokngiokdffdaaDoorW.PrintWords Go.Proofs.YtmokngiokdffdaaDoorW.PrintLast Go.Proofs.YtmokngiokdffdaaDoorW.PrintMore
set_option linter.unusedVariables false

/-- All blocks but g lie as they lay. -/
def Kp (g : Nat) (w w' : World) : Prop := w.heap.size ≤ w'.heap.size ∧ ∀ i, i < w.heap.size → i ≠ g → w'.heap[i]? = w.heap[i]?
theorem Kp.refl (g : Nat) (w : World) : Kp g w w := ⟨Nat.le_refl _, fun _ _ _ => rfl⟩
theorem Kp.trans {g : Nat} {a b c : World} (h : Kp g a b) (k : Kp g b c) : Kp g a c := ⟨Nat.le_trans h.1 k.1, fun i hi hg => (k.2 i (Nat.lt_of_lt_of_le hi h.1) hg).trans (h.2 i hi hg)⟩
theorem Kp.setCell (g j : Nat) (w : World) (v : Value) : Kp g w (w.setCell ⟨g, j, none⟩ v) := ⟨by simp, fun i _ hg => Below.heap_setCell w ⟨g, j, none⟩ v i hg⟩
theorem Kp.below {g : Nat} {w w' : World} (h : Below w.heap.size w w') : Kp g w w' := ⟨h.size, fun i hi _ => h.block i hi⟩

theorem fail_any (w0 w : World) (g : Nat) (rest : List Int) (e x : Int) (hI : RdP w0 w g rest e) :
    Calls Tryd.prog 64 #[.pointer (some ⟨g, 0, none⟩), .int .i64 x] w fun en w' => en = .returned (.tuple #[]) ∧ RdP w0 w' g [] x ∧ Kp g w w' := by
  obtain ⟨A, c, hb, _, _⟩ := hI.blk
  have q0 : w.cell? ⟨g, 0, none⟩ = some (.slice A rest.length c) := (blk_cell hb 0).trans rfl
  have q1 : w.cell? ⟨g, 1, none⟩ = some (.int .i64 e) := (blk_cell hb 1).trans rfl
  have f0 := blk_frozen hb 0
  have f1 := blk_frozen hb 1
  have HB := Aside0.mk hb
  have HI := Aside0.mk hI
  clear hb hI
  go_enter Tryd.func64, Tryd.ntmps64
  go_wp2
  go_end0
  have h1 := blk_set (blk_set HB.out 1 (.int .i64 x)) 0 (.slice none 0 0)
  refine ⟨rfl, ⟨⟨none, 0, ?_, Nat.le_refl _, Kd.C_nil _ _⟩, HI.out.far, (HI.out.below.setCell (p := ⟨g, 1, none⟩) HI.out.far _).setCell (p := ⟨g, 0, none⟩) HI.out.far _, fun _ h => by cases h⟩, (Kp.setCell g 1 w _).trans (Kp.setCell g 0 _ _)⟩
  simpa using h1

theorem C_drop {w : World} {ad : Addr} {l : List Int} {n : Nat} (h : Kd.C (Kd.int .u8) w (some ad) l.length l) (hn : n ≤ l.length) :
    Kd.C (Kd.int .u8) w (some (ad.add n)) (l.drop n).length (l.drop n) := by
  refine Kd.C_of_reads (d := (0 : Int)) (h1 := fun _ => rfl) ?_
  have hm := Kd.C_max h
  have hl : (l.drop n).length = l.length - n := by simp
  refine ⟨rfl, by omega, fun hp => ⟨_, rfl, fun j hj => ?_⟩⟩
  obtain ⟨ad2, e, hc⟩ := Kd.at_int h ((n + j : Nat) : Int) (by omega) (by omega)
  cases e
  have e1 : (ad.add n).add j = ad.add (n + j) := by rw [add_add]
  rw [e1]
  have e2 : rd l ((n + j : Nat) : Int) = (l.drop n).getD j 0 := by
    rw [rd_nat l (n + j) (by omega)]
    rw [List.getD_eq_getElem?_getD, List.getElem?_drop, List.getElem?_eq_getElem (by omega)]; rfl
  rw [← e2]
  exact hc

theorem take_any (w0 w : World) (g n : Nat) (rest : List Int) (e : Int) (hI : RdP w0 w g rest e) (hn : n ≤ rest.length) (hp : 0 < n) :
    Calls Tryd.prog 65 #[.pointer (some ⟨g, 0, none⟩), .int .i64 (n : Int)] w fun en w' => (∃ v, en = .returned v) ∧ RdP w0 w' g (rest.drop n) e ∧ Kp g w w' := by
  obtain ⟨A, c, hb, hc, hC⟩ := hI.blk
  have q0 : w.cell? ⟨g, 0, none⟩ = some (.slice A rest.length c) := (blk_cell hb 0).trans rfl
  have f0 := blk_frozen hb 0
  have HB := Aside0.mk hb
  have HI := Aside0.mk hI
  have HC := Aside0.mk hC
  obtain ⟨ad, hA, _⟩ := Kd.at_int hC 0 (by omega) (by omega)
  subst hA
  have HM := Aside0.mk (Kd.C_max hC)
  clear hb hI hC
  by_cases hcap : c = n
  · subst hcap
    have hn2 : (c : Int) ≤ (rest.length : Int) := by omega
    go_enter Tryd.func65, Tryd.ntmps65
    go_wp2
    go_ret
    have h1 := blk_set HB.out 0 (.slice (some ad) (rest.length - c) 0)
    have hd : rest.drop c = [] := List.drop_of_length_le (by omega)
    rw [hd]
    have hl : rest.length - c = 0 := by omega
    refine ⟨⟨_, rfl⟩, ⟨⟨some ad, 0, ?_, Nat.le_refl _, ?_⟩, HI.out.far, HI.out.below.setCell (p := ⟨g, 0, none⟩) HI.out.far _, fun x hx => by cases hx⟩, Kp.setCell g 0 w _⟩
    · simpa [hl] using h1
    · exact Kd.C_of_reads (d := (0 : Int)) (h1 := fun _ => rfl) ⟨rfl, by simp, fun h => absurd h (by simp)⟩
  · have hn1 : (n : Int) ≤ (c : Int) := by omega
    have hn2 : (n : Int) ≤ (rest.length : Int) := by omega
    go_enter Tryd.func65, Tryd.ntmps65
    go_wp2
    go_ret
    have h1 := blk_set HB.out 0 (.slice (some (ad.add n)) (rest.length - n) (c - n))
    have hl : (rest.drop n).length = rest.length - n := by simp
    refine ⟨⟨_, rfl⟩, ⟨⟨some (ad.add n), c - n, ?_, ?_, C_drop HC.out hn⟩, HI.out.far, HI.out.below.setCell (p := ⟨g, 0, none⟩) HI.out.far _, fun x hx => HI.out.byte x (List.mem_of_mem_drop hx)⟩, Kp.setCell g 0 w _⟩
    · rw [hl]; simpa using h1
    · rw [hl]; omega

end Go.Proofs.YtmokngiokdffdaaDoor.P
