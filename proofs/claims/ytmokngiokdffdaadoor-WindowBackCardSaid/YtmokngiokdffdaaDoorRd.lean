/-
  tally's reader: its state, and what its calls tell.
-/
import Derived.Test.YtmokngiokdffdaaDoorRc
import Derived.BigQuiet
import Derived.Deep.QuietTactic
namespace Go.Proofs.YtmokngiokdffdaaDoor.P
open Go.RowKit Go.Proofs.YtmokngiokdffdaaDoorW.PrintWords Go.Proofs.YtmokngiokdffdaaDoorW.PrintLast Go.Proofs.YtmokngiokdffdaaDoorW.PrintMore
set_option linter.unusedVariables false

/-- A reader of the program at block g: the bytes that are left, the first error. -/
structure RdP (w0 W : World) (g : Nat) (rest : List Int) (e : Int) : Prop where
  blk : ∃ A c, W.heap[g]? = some (.cells #[.slice A rest.length c, .int .i64 e, .bool true] 73 (0, 0)) ∧ rest.length ≤ c ∧ Kd.C (Kd.int .u8) w0 A rest.length rest
  far : w0.heap.size ≤ g
  below : Below w0.heap.size w0 W
  byte : ∀ x ∈ rest, 0 ≤ x ∧ x < 256

theorem stopped_any (w0 w : World) (g : Nat) (rest : List Int) (e : Int) (hI : RdP w0 w g rest e) :
    Calls Tryd.prog 58 #[.pointer (some ⟨g, 0, none⟩)] w fun en w' => en = .returned (.bool (e != 0)) ∧ w' = w := by
  obtain ⟨A, c, hb, _, _⟩ := hI.blk
  have q0 : w.cell? ⟨g, 0, none⟩ = some (.slice A rest.length c) := (blk_cell hb 0).trans rfl
  have q1 : w.cell? ⟨g, 1, none⟩ = some (.int .i64 e) := (blk_cell hb 1).trans rfl
  have q2 : w.cell? ⟨g, 2, none⟩ = some (.bool true) := (blk_cell hb 2).trans rfl
  clear hb
  go_enter Tryd.func58, Tryd.ntmps58
  go_wp2
  go_ret
  exact ⟨by simp, rfl⟩

theorem Err_any (w0 w : World) (g : Nat) (rest : List Int) (e : Int) (hI : RdP w0 w g rest e) :
    Calls Tryd.prog 40 #[.pointer (some ⟨g, 0, none⟩)] w fun en w' => en = .returned (.int .i64 e) ∧ w' = w := by
  obtain ⟨A, c, hb, _, _⟩ := hI.blk
  have q0 : w.cell? ⟨g, 0, none⟩ = some (.slice A rest.length c) := (blk_cell hb 0).trans rfl
  have q1 : w.cell? ⟨g, 1, none⟩ = some (.int .i64 e) := (blk_cell hb 1).trans rfl
  have q2 : w.cell? ⟨g, 2, none⟩ = some (.bool true) := (blk_cell hb 2).trans rfl
  clear hb
  go_enter Tryd.func40, Tryd.ntmps40
  go_wp2
  go_ret
  exact ⟨by simp, rfl⟩

theorem left_any (w0 w : World) (g : Nat) (rest : List Int) (e : Int) (hI : RdP w0 w g rest e) :
    Calls Tryd.prog 59 #[.pointer (some ⟨g, 0, none⟩)] w fun en w' => en = .returned (.int .i64 (rest.length : Int)) ∧ w' = w := by
  obtain ⟨A, c, hb, _, _⟩ := hI.blk
  have q0 : w.cell? ⟨g, 0, none⟩ = some (.slice A rest.length c) := (blk_cell hb 0).trans rfl
  clear hb
  go_enter Tryd.func59, Tryd.ntmps59
  go_wp2
  go_ret
  exact ⟨by simp, rfl⟩

theorem Left_any (w0 w : World) (g : Nat) (rest : List Int) (e : Int) (hI : RdP w0 w g rest e) :
    Calls Tryd.prog 41 #[.pointer (some ⟨g, 0, none⟩)] w fun en w' => en = .returned (.int .i64 (if e = 0 then (rest.length : Int) else 0)) ∧ w' = w := by
  have HI := Aside0.mk hI
  by_cases he : e = 0
  · have hn : (e != 0) = false := by simp [he]
    rw [if_pos he]
    clear hI he
    go_enter Tryd.func41, Tryd.ntmps41
    go_wp2_with (first | (go_at_call 58; refine (stopped_any w0 w g rest e HI.out).mono ?_; rintro en w' ⟨rfl, rfl⟩) | (go_at_call 59; refine (left_any w0 _ g rest e HI.out).mono ?_; rintro en w' ⟨rfl, rfl⟩))
    go_ret
    exact ⟨rfl, rfl⟩
  · have hn : (e != 0) = true := by simp [he]
    rw [if_neg he]
    clear hI he
    go_enter Tryd.func41, Tryd.ntmps41
    go_wp2_with (first | (go_at_call 58; refine (stopped_any w0 w g rest e HI.out).mono ?_; rintro en w' ⟨rfl, rfl⟩) | (go_at_call 59; refine (left_any w0 _ g rest e HI.out).mono ?_; rintro en w' ⟨rfl, rfl⟩))
    go_ret
    exact ⟨rfl, rfl⟩

end Go.Proofs.YtmokngiokdffdaaDoor.P
