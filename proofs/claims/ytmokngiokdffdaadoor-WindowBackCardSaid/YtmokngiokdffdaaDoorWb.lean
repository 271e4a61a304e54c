/-
  WindowBack: the walk.
-/
import Derived.Test.YtmokngiokdffdaaDoorRk
import Derived.Test.YtmokngiokdffdaaDoorPd
import Derived.Test.YtmokngiokdffdaaDoorWp
namespace Go.Proofs.YtmokngiokdffdaaDoor.P
open Go.RowKit Go.Proofs.YtmokngiokdffdaaDoorW.PrintWords Go.Proofs.YtmokngiokdffdaaDoorW.PrintLast Go.Proofs.YtmokngiokdffdaaDoorW.PrintMore
attribute [local go_sem high] eqA38
set_option linter.unusedVariables false

set_option maxRecDepth 100000 in
set_option maxHeartbeats 8000000 in
theorem Back_lives (B : Int) (m : Nat) (A1 : Option Addr) (c1 : Nat) (l1 : List Int) (w : World) (hm : m < 2 ^ 64) (hB : -9223372036854775808 ≤ B) (hT : TabOK w)
    (h : 2000 < l1.length ∨ l1.length ≤ 2000 ∧ goodB B m = false) :
    Calls Tryd.prog 10 #[.agg #[.int .i64 B, .int .u64 (m : Int)], .slice A1 l1.length c1] w fun e w' => e = .returned (.bool true) ∧ Below w.heap.size w w' := by
  have KL := Aside0.mk (lives09 10 (by omega))
  have HB := Aside0.mk (below_alloc (Below.refl w.heap.size w) (.cells #[.int .i64 B, .int .u64 (m : Int)] 38))
  rcases h with h | ⟨h, hg⟩
  · have hd : decide (2000 < (l1.length : Int)) = true := decide_eq_true (by omega)
    clear h
    go_enter Tryd.func10, Tryd.ntmps10
    go_wp2_with (go_at_call 21; refine (raddlelaw09_lives.calls 10 true _ KL.out (hT.below' HB.out)).mono ?_; rintro e wn ⟨rfl, hbl⟩)
    go_ret
    exact ⟨rfl, below_step HB.out hbl⟩
  · have hd : decide (2000 < (l1.length : Int)) = false := decide_eq_false (by omega)
    have KG := Aside0.mk (Good_eq B m hm hB)
    rw [hg] at KG
    clear h hg
    go_enter Tryd.func10, Tryd.ntmps10
    go_wp2_with (first | (go_at_call 26; refine (window_Good.calls B m false _ KG.out).mono ?_; rintro e wn ⟨rfl, hbl⟩; have HB' := Aside0.mk (below_step HB.out hbl); clear HB hbl; have HB := HB'; clear HB') | (go_at_call 21; refine (raddlelaw09_lives.calls 10 true _ KL.out (hT.below' HB.out)).mono ?_; rintro e wn ⟨rfl, hbl⟩))
    go_ret
    exact ⟨rfl, below_step HB.out hbl⟩

set_option maxRecDepth 100000 in
set_option maxHeartbeats 8000000 in
theorem Back_core (B m : Nat) (A1 : Option Addr) (c1 : Nat) (l1 : List Int) (w : World) (hm : m < 2 ^ 64) (hB : B ≤ 1099511627777) (hT : TabOK w)
    (hl : l1.length ≤ 2000) (hg : goodB (B : Int) m = true) (hr1 : Kd.C (Kd.int .u8) w A1 l1.length l1) (hby : ∀ x ∈ l1, 0 ≤ x ∧ x < 256) :
    Calls Tryd.prog 10 #[.agg #[.int .i64 (B : Int), .int .u64 (m : Int)], .slice A1 l1.length c1] w fun e w' => e = .returned (.bool true) ∧ Below w.heap.size w w' := by
  have hu38 := Tryd.underlying38
  have KL := Aside0.mk (lives09 10 (by omega))
  have hd : decide (2000 < (l1.length : Int)) = false := decide_eq_false (by omega)
  have KG := Aside0.mk (Good_eq (B : Int) m hm (by omega))
  rw [hg] at KG
  have HR1 := Aside0.mk hr1
  have HBY : Aside0 (∀ x ∈ putW [] (B : Int) m ++ l1, 0 ≤ x ∧ x < 256) := Aside0.mk (fun x hx => by
    rcases List.mem_append.1 hx with h | h
    · exact putW_byte [] (B : Int) m (by omega) hm (fun x hx => by cases hx) x h
    · exact hby x h)
  have hpl := putW_length [] (B : Int) m (by omega) hm
  have HLE : Aside0 ((putW [] (B : Int) m ++ l1).length < 1000000) := Aside0.mk (by rw [List.length_append]; simp at hpl; omega)
  have HPL := Aside0.mk hpl
  obtain ⟨r1, hn1, hk2⟩ := back_reads B m l1 hB hm
  have HGET : Aside0 (∀ (w0 W : World) (g : Nat), RdP w0 W g (putW [] (B : Int) m ++ l1) 0 → Calls Tryd.prog 38 #[.pointer (some ⟨g, 0, none⟩)] W fun en w' => en = .returned (.agg #[.int .i64 (B : Int), .int .u64 (m : Int)]) ∧ RdP w0 w' g l1 0 ∧ Kp g W w') :=
    Aside0.mk (fun w0 W g hI => (Get_any w0 W g _ 0 hI (B : Int) r1 0 hn1 (m : Int) l1 0 hk2 true KG.out).mono (by
      rintro en w' ⟨rfl, h2, h3⟩
      have e : getR (B : Int) (m : Int) 0 true = ((B : Int), (m : Int)) := by unfold getR; rw [if_pos ⟨rfl, rfl⟩]
      rw [e]
      exact ⟨rfl, h2, h3⟩))
  have HLEFT : Aside0 (∀ (w0 W : World) (g : Nat), RdP w0 W g l1 0 → Calls Tryd.prog 41 #[.pointer (some ⟨g, 0, none⟩)] W fun en w' => en = .returned (.int .i64 (l1.length : Int)) ∧ w' = W) :=
    Aside0.mk (fun w0 W g hI => (Left_any w0 W g l1 0 hI).mono (by rintro en w' ⟨rfl, h2⟩; exact ⟨by rw [if_pos rfl], h2⟩))
  have HB := Aside0.mk (below_alloc (Below.refl w.heap.size w) (.cells #[.int .i64 (B : Int), .int .u64 (m : Int)] 38))
  have BK := Aside0.mk (World.alloc_heap_new w (.cells #[.int .i64 (B : Int), .int .u64 (m : Int)] 38))
  clear hr1 hby hg hn1 hk2 hpl
  go_enter Tryd.func10, Tryd.ntmps10
  go_wp2_with (first
    | (go_at_call 26; refine (window_Good.calls (B : Int) m true _ KG.out).mono ?_; rintro e w1 ⟨rfl, hbl⟩; have HB1 := Aside0.mk (below_step HB.out hbl); have BK1 := Aside0.mk (blk_below BK.out hbl); have q1 : w1.cell? ⟨w.heap.size, 0, none⟩ = some (.int .i64 (B : Int)) := (blk_cell BK1.out 0).trans rfl; have q2 : w1.cell? ⟨w.heap.size, 1, none⟩ = some (.int .u64 (m : Int)) := (blk_cell BK1.out 1).trans rfl; clear hbl HB BK)
    | (go_at_call 36; refine (WPut_any none 0 [] (B : Int) m hm (by omega) _ (Kd.C_nil _ _) (Nat.le_refl _) (by simp)).mono ?_; rintro e w2 ⟨v16, rfl, hR, hbl⟩; have HR := Aside0.mk hR; have HB2 := Aside0.mk hbl; clear hR hbl)
    | ((with_reducible refine gate_builtin (b := .append) (xs := #[.tmp 16, .tmp 17]) rfl ?_); at_builtin; refine Kd.R_append_rows (Kd.int .u8) (w0 := w1) w1.heap.size rfl (.tmp 16) (.tmp 17) 54 5 (.int .u8 0) 1 rfl Tryd.underlying54 info5 rfl (by decide) (by omega) v16 (putW [] (B : Int) m) l1 _ _ _ (fun _ => True) (fun _ => False) rfl rfl ?aO ?aR (fun _ _ h => h) (fun _ h => h.elim) ?aF ?aB ?aS ?aL ?_; (case aR => exact (Kd.C_below (Kd.C_below HR1.out HB1.out) HB2.out)); (case aB => exact HB2.out); (case aF => exact (fun _ _ => trivial)); (case aO => exact HR.out); (case aS => exact (below_size HB2.out)); (case aL => have := HPL.out; simp at this; omega); intro v5 w5 ho hb hg hat; obtain ⟨A5, c5, rfl, hc5, hC5⟩ := Kd.R_reads ho; have HC5 := Aside0.mk hC5; have HD5 := Aside0.mk hc5; have HB5 := Aside0.mk hb; clear HB2 HR hC5 hc5 ho hb hg hat)
    | (go_at_call 34; refine calls_of_args (args' := #[.slice A5 (putW [] (B : Int) m ++ l1).length c5]) (by rw [List.length_append]) ?_; refine (Read_any A5 c5 (putW [] (B : Int) m ++ l1) _ HC5.out HLE.out HBY.out).mono ?_; rintro e w6 ⟨g, w0, rfl, hI, hb0⟩; have HI := Aside0.mk hI; have HBT := Aside0.mk (below_step (below_step HB1.out HB5.out) hb0); have BK2 := Aside0.mk (blk_below (blk_below (blk_below BK1.out HB5.out) hb0) hI.below); have HGW : Aside0 (w.heap.size ≠ g) := Aside0.mk (by have h1 := hI.far; have h2 := hb0.size; have h3 := HB5.out.size; have h4 := blk_lt BK1.out; omega); clear q1 q2; have q1 : w6.cell? ⟨w.heap.size, 0, none⟩ = some (.int .i64 (B : Int)) := (blk_cell BK2.out 0).trans rfl; have q2 : w6.cell? ⟨w.heap.size, 1, none⟩ = some (.int .u64 (m : Int)) := (blk_cell BK2.out 1).trans rfl; clear hI hb0 HC5 HD5 HB5 BK1 HB1))
  go_region_held3 (fun w' => w'.cell? ⟨w.heap.size, 0, none⟩ = some (.int .i64 (B : Int)) ∧ w'.cell? ⟨w.heap.size, 1, none⟩ = some (.int .u64 (m : Int)))
    (first | exact ⟨q1, q2⟩ | go_keep)
    (first
      | (go_at_call 38; refine (HGET.out w0 _ g (by first | exact HI.out | exact HI.out.drew)).mono ?_; rintro e w7 ⟨rfl, hI', hK'⟩; have HI' := Aside0.mk hI'; have BK3 := Aside0.mk (Kp.blk hK' BK2.out HGW.out); clear q1 q2 HI BK2 hI' hK'; have HI := HI'; have BK2 := BK3; clear HI' BK3; have q1 : w7.cell? ⟨w.heap.size, 0, none⟩ = some (.int .i64 (B : Int)) := (blk_cell BK2.out 0).trans rfl; have q2 : w7.cell? ⟨w.heap.size, 1, none⟩ = some (.int .u64 (m : Int)) := (blk_cell BK2.out 1).trans rfl)
      | (go_at_call 40; refine (Err_any w0 _ g l1 0 (by first | exact HI.out | exact HI.out.drew)).mono ?_; rintro e w8 ⟨rfl, rfl⟩)
      | (go_at_call 41; refine (HLEFT.out w0 _ g (by first | exact HI.out | exact HI.out.drew)).mono ?_; rintro e w9 ⟨rfl, rfl⟩)
      | (go_at_call 21; refine (raddlelaw09_lives.calls 10 true _ KL.out (by first | exact hT.below' (below_step HBT.out HI.out.below) | exact (hT.below' (below_step HBT.out HI.out.below)).drew)).mono ?_; rintro e wn ⟨rfl, hbl⟩; have HI' := Aside0.mk ((by first | exact HI.out | exact HI.out.drew : RdP w0 _ g l1 0).grow hbl); have BK3 := Aside0.mk (blk_below BK2.out hbl); clear q1 q2 HI BK2 hbl; have HI := HI'; have BK2 := BK3; clear HI' BK3; have q1 : wn.cell? ⟨w.heap.size, 0, none⟩ = some (.int .i64 (B : Int)) := (blk_cell BK2.out 0).trans rfl; have q2 : wn.cell? ⟨w.heap.size, 1, none⟩ = some (.int .u64 (m : Int)) := (blk_cell BK2.out 1).trans rfl))
  go_wp2
  go_ret
  exact ⟨by simp, below_step HBT.out HI.out.below⟩

theorem wf_u8' {a : Int} (h : (Lit.int .u8 a).wf = true) : 0 ≤ a ∧ a < 256 := by
  simp [Lit.wf, IntKind.min, IntKind.max, IntKind.signed, IntKind.bits] at h; omega

theorem WindowBack_walk (b0 b1 : Int) (a1 : Option Addr) (len1 cap1 : Nat) (z1 : List Int) (w : World) (u0 : (Lit.int .i64 b0).wf = true) (u1 : (Lit.int .u64 b1).wf = true)
    (w1 : (a1 = none ∧ len1 = 0 ∧ cap1 = 0 ∧ z1 = []) ∨ ∃ x, a1 = some x ∧ len1 ≤ cap1 ∧ cap1 ≤ maxLen ∧ z1.length = cap1 ∧ (∀ i, i < z1.length → w.cell? (x.add i) = some (.int .u8 (z1.getD i 0))) ∧ ∀ n ∈ z1, (Lit.int .u8 n).wf = true) (y1 : len1 * 1 ≤ 140737488351232) (hT : TabOK w) :
    Calls Tryd.prog 10 #[.agg #[.int .i64 b0, .int .u64 b1], .slice a1 len1 cap1] w fun e w' => e = .returned (.bool true) ∧ Below w.heap.size w w' := by
  obtain ⟨l1, rfl, hr1, hm1, hw1, hc1⟩ := ReadsInt.ofRowC w1
  obtain ⟨m, rfl, hm⟩ := u64_nat u1
  have hC := Kd.C_of_reads (d := (0 : Int)) (h1 := fun _ => rfl) hr1
  by_cases h1 : 2000 < l1.length
  · exact Back_lives b0 m a1 cap1 l1 w hm (wf_i64 u0).1 hT (.inl h1)
  · cases hg : goodB b0 m with
    | false => exact Back_lives b0 m a1 cap1 l1 w hm (wf_i64 u0).1 hT (.inr ⟨by omega, hg⟩)
    | true =>
      have hb := goodB_bd hg
      obtain ⟨B, rfl⟩ := Int.eq_ofNat_of_zero_le (show 0 ≤ b0 by omega)
      exact Back_core B m a1 cap1 l1 w hm (by omega) hT (by omega) hg hC (fun x hx => wf_u8' (hw1 x hx))

end Go.Proofs.YtmokngiokdffdaaDoor.P
