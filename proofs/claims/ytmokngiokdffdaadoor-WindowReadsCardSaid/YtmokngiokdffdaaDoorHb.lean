/-
  mask.All's iterator, as the kit's range-over-function laws ask it: the numbers of the mask, rising.
-/
import Derived.RangeFuncNested
import Derived.RangeFuncBound
import Derived.RangeFuncCalls
import Derived.RangeFuncLeaves
import Derived.RangeFuncFrom
import Derived.Shelf.Abstract
import Derived.Shelf.RegionOpen
import Derived.WalkKit
import Derived.OwnWalkIn
import Derived.TacticsInMore
import Derived.LoopNIn
import Derived.LoopIn
import Derived.Test.YtmokngiokdffdaaDoorHa
import Derived.Test.YtmokngiokdffdaaDoorMa
namespace Go.Proofs.YtmokngiokdffdaaDoor
open Go.RowKit Go.Shelf
attribute [local go_sem] Oper.semAt_some
namespace P
open Ma

theorem cell_of_box_l {W : World} {B : Nat} {v : Value} {t : TypeId} (h : W.heap[B]? = some (.cells #[v] t (0, 0))) : W.cell? ⟨B, 0, none⟩ = some v ∧ W.frozen? ⟨B, 0, none⟩ = false := by
  constructor <;> simp [World.cell?, World.frozen?, h]
theorem cell_new_l (W : World) (v : Value) (t : TypeId) : (W.alloc (.cells #[v] t)).cell? ⟨W.heap.size, 0, none⟩ = some v ∧ (W.alloc (.cells #[v] t)).frozen? ⟨W.heap.size, 0, none⟩ = false :=
  cell_of_box_l (World.alloc_heap_new W _)
theorem cell_alloc_l {W : World} {a : Addr} {v : Value} (o : Obj) (h : W.cell? a = some v) : (W.alloc o).cell? a = some v := cell_kept h (World.grownBy_alloc W o none) (fun r e => by cases e)
theorem frozen_alloc_l {W : World} {a : Addr} {v : Value} (o : Obj) (h : W.cell? a = some v) (hf : W.frozen? a = false) : (W.alloc o).frozen? a = false := (frozen_kept h (World.grownBy_alloc W o none) (fun r e => by cases e)).trans hf

/-- A fence that lets all calls pass: the wide one, its make out of sight. -/
structure Wide (F : Fence) : Prop where
  fn : ∀ f, F.fn f
  round : F.round = none
  calls : ∀ (n f : Nat) (args : Array Value) (w : World) (R : Ending → World → Prop), Calls Tryd.prog f args w R → CallsIn F n Tryd.prog f args w R
theorem wide_wide : Wide Fence.wide := ⟨fun _ => trivial, rfl, fun _ _ _ _ _ h => callsIn_wide.2 h⟩

set_option maxRecDepth 100000 in
set_option maxHeartbeats 2000000 in
theorem all1_in (F : Fence) (n : Nat) (hF : Wide F) (hn : 1 ≤ n) (l Bn n₀ m : Nat) (hm : m < 2 ^ 64) (hn0 : 0 < n₀) (J Jx : List Nat → World → Prop)
    (hY : ∀ pre x W, J pre W → pre.length < (bitsL m).length → YieldAt F (n - 1) Tryd.prog l #[.int .i64 ((x : Nat) : Int)] W fun e W' =>
      (e = .returned (.bool true) ∧ J (pre ++ [x]) W' ∧ Below n₀ W W') ∨ (e = .returned (.bool false) ∧ Jx (pre ++ [x]) W'))
    (W : World) (hBn : W.cell? ⟨Bn, 0, none⟩ = some (.int .u64 (m : Int))) (hT : TabOK W) (h0 : J [] W) :
    CallsIn F n Tryd.prog 43 #[.func (.yield l) #[] #[], .pointer (some ⟨Bn, 0, none⟩)] W fun e W' => (∃ v, e = .returned v) ∧
      ((∃ ys, ys = bitsL m ∧ J ys W') ∨ (∃ pre, pre <+: bitsL m ∧ Jx pre W')) := by
  have h43 := hF.fn 43
  have h44 := hF.fn 44
  have hro := hF.round
  refine callsIn_of_wp Tryd.func43 rfl h43 ?_ hro
  simp only [Tryd.ntmps43, List.size_toArray, List.length_cons, List.length_nil, Nat.reduceAdd, Nat.reduceSub, Array.replicate_succ, Array.replicate_zero, List.push_toArray, List.append_toArray, List.nil_append, List.cons_append]
  gi_wp2
  gi_loopw [3] (fun p wr => ∃ (pre : List Nat) (x : Nat), p = .int .u64 (x : Int) ∧ x < 2 ^ 64 ∧ bitsL m = pre ++ bitsL x ∧ TabOK wr ∧ J pre wr)
    (fun p _ => (bitsL (intOf p).toNat).length)
  case atStart =>
    exact ⟨[], m, rfl, hm, rfl, hT, h0⟩
  case round =>
    obtain ⟨pre, x, rfl, hx, hp, hTr, hJs⟩ := hrel
    by_cases hx0 : x = 0
    · subst hx0
      have hz : ((((0 : Nat) : Int)) != 0) = false := rfl
      gi_wp2
      go_end0
      exact ⟨⟨_, rfl⟩, .inl ⟨pre, by rw [hp, bitsL_zero, List.append_nil], hJs⟩⟩
    · have hz : ((x : Int) != 0) = true := by simp only [bne_iff_ne, ne_eq]; omega
      have hst := bitsL_step x hx0 hx
      obtain ⟨fn, tmps, assign, body, hy, hR⟩ := hY pre (Lib.ctz 64 x) wr hJs (by rw [hp, hst]; simp)
      have Hst := Lib.hid hst
      have Hp := Lib.hid hp
      have HY := Lib.hid hY
      clear hst hp hY
      gi_wp2_with (gi_at_call 44; refine (hF.calls _ _ _ _ _ (tz64_any x hx _ hTr)).mono ?_; rintro e w' ⟨rfl, rfl⟩)
      refine hR.mono ?_
      rintro e W3 (⟨rfl, hJ3, hk3⟩ | ⟨rfl, hJx3⟩)
      · have e1 : bits BinOp.and .u64 (x : Int) ((x : Int) - 1) = ((x &&& (x - 1) : Nat) : Int) := by
          have e0 : ((x : Int) - 1) = ((x - 1 : Nat) : Int) := by omega
          rw [e0, bits_and_u64_nat x (x - 1) hx (by omega)]
        have E1 := Lib.hid e1
        clear e1
        gi_wp2
        go_roundw
        case rel => exact ⟨pre ++ [Lib.ctz 64 x], x &&& (x - 1), by rw [E1.out], and_lt _ _ hx, by rw [Hp.out, Hst.out]; simp, hTr.below hn0 hk3, hJ3⟩
        case measure => rw [E1.out]; simp only [intOf, Int.toNat_natCast]; simp [Hst.out]
      · gi_wp2
        refine bodyPost_ret (results_none rfl _ _ _) rfl ?_
        exact ⟨⟨_, rfl⟩, .inr ⟨pre ++ [Lib.ctz 64 x], ⟨bitsL (x &&& (x - 1)), by rw [Hp.out, Hst.out]; simp⟩, hJx3⟩⟩

theorem all_stops (F : Fence) (n : Nat) (hF : Wide F) (hn : 1 ≤ n) (Bn n₀ m : Nat) (hm : m < 2 ^ 64) (hn0 : 0 < n₀) (w : World) (hBn : Bn < w.heap.size)
    (hc : w.cell? ⟨Bn, 0, none⟩ = some (.int .u64 (m : Int))) (hT : TabOK w) :
    SeqStopsK F n Tryd.prog 43 #[.pointer (some ⟨Bn, 0, none⟩)] (fun x : Nat => #[Value.int .i64 (x : Int)]) (Below n₀) (fun ys => ys = bitsL m) (fun pre => pre <+: bitsL m) (bitsL m).length w := fun l J Jx W hW _ _ hY h0 =>
  all1_in F n hF hn l Bn n₀ m hm hn0 J Jx hY W ((hW.cell (p := ⟨Bn, 0, none⟩) hBn).trans hc) (hT.below' hW) h0

/-- mask.All makes a closure over a box of its argument. -/
theorem All_any (a : Int) (w : World) :
    Calls Tryd.prog 11 #[.int .u64 a] w fun e w' => e = .returned (.func (.func 43) #[] #[.pointer (some ⟨w.heap.size, 0, none⟩)]) ∧ w.alloc (.cells #[.int .u64 a] 22) = w' := by
  go_enter Tryd.func11, Tryd.ntmps11
  go_wp2
  go_ret
  exact ⟨rfl, rfl⟩

end P
end Go.Proofs.YtmokngiokdffdaaDoor
