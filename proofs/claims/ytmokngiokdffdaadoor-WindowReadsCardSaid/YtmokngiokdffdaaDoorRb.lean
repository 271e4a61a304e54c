/-
  window.Put: what it lays behind bytes; the reference's Put tells the same bytes.
-/
import Derived.Test.YtmokngiokdffdaaDoorRa
import Derived.Test.YtmokngiokdffdaaDoorWm
import Derived.Deep.RegionHeld3
namespace Go.Proofs.YtmokngiokdffdaaDoor.P
open Go.RowKit Go.Proofs.YtmokngiokdffdaaDoorW.PrintWords Go.Proofs.YtmokngiokdffdaaDoorW.PrintLast Go.Proofs.YtmokngiokdffdaaDoorW.PrintMore
set_option linter.unusedVariables false

theorem Put_neg (A0 : Option Addr) (c0 : Nat) (l0 : List Int) (n : Int) (hn : n < 0) (w : World) (hr0 : Kd.C (Kd.int .u8) w A0 l0.length l0) (hc0 : l0.length ≤ c0) :
    Calls Tryd.prog 54 #[.slice A0 l0.length c0, .int .i64 n] w fun e w' => e = .returned (.slice A0 l0.length l0.length) ∧ w' = w := by
  have HM := Aside0.mk (Kd.C_max hr0)
  have hneg : decide (n < 0) = true := decide_eq_true hn
  clear hr0
  go_enter Tryd.func54, Tryd.ntmps54
  go_wp2
  go_ret
  exact ⟨rfl, rfl⟩

def putN (l : List Int) (n : Int) : List Int := if n < 0 then l else l ++ putB n.toNat
def putW (l : List Int) (B : Int) (m : Nat) : List Int := putN l B ++ putB (m / 4294967296) ++ putB (m % 4294967296)

theorem putB_length (n : Nat) (hn : n < 9223372036854775808) : (putB n).length ≤ 9 := by
  have := (dg_le 8 n (Nat.lt_trans hn (by decide))).1
  unfold putB
  rw [List.length_cons, beD_length]; omega

/-- tally.Put at any number: what can be read behind it. -/
theorem Put_reads (A0 : Option Addr) (c0 : Nat) (l0 : List Int) (n : Int) (h1 : n < 9223372036854775808) (w : World) (hr0 : Kd.C (Kd.int .u8) w A0 l0.length l0) (hc0 : l0.length ≤ c0) (hl : l0.length < 1099511627776) :
    Calls Tryd.prog 54 #[.slice A0 l0.length c0, .int .i64 n] w fun e w' => ∃ A c, e = .returned (.slice A (putN l0 n).length c) ∧ Kd.C (Kd.int .u8) w' A (putN l0 n).length (putN l0 n) ∧ (putN l0 n).length ≤ c ∧ Below w.heap.size w w' := by
  by_cases hn : n < 0
  · refine (Put_neg A0 c0 l0 n hn w hr0 hc0).mono ?_
    rintro e w' ⟨rfl, rfl⟩
    have e1 : putN l0 n = l0 := by unfold putN; rw [if_pos hn]
    rw [e1]
    exact ⟨_, _, rfl, hr0, Nat.le_refl _, Below.refl _ _⟩
  · obtain ⟨k, rfl⟩ := Int.eq_ofNat_of_zero_le (show 0 ≤ n by omega)
    refine (Put_pos A0 c0 l0 k (by omega) w hr0 hc0 hl).mono ?_
    rintro e w' ⟨v, rfl, hR, hb⟩
    obtain ⟨A, c, rfl, hc, hC⟩ := Kd.R_reads hR
    have e1 : putN l0 (k : Int) = l0 ++ putB k := by unfold putN; rw [if_neg (by omega)]; rfl
    rw [e1]
    exact ⟨A, c, rfl, hC, hc, hb⟩

theorem and_key (m : Nat) (hm : m < 2 ^ 64) : bits BinOp.and .u64 (m : Int) 4294967295 = ((m % 4294967296 : Nat) : Int) := by
  have := u64_and_nat m 4294967295 hm (by decide)
  have e : ((4294967295 : Nat) : Int) = 4294967295 := rfl
  rw [e] at this
  rw [this]
  have h2 : (4294967295 : Nat) = 2 ^ 32 - 1 := by decide
  rw [h2, Nat.and_two_pow_sub_one_eq_mod]

set_option maxRecDepth 100000 in
set_option maxHeartbeats 8000000 in
theorem WPut_any (A0 : Option Addr) (c0 : Nat) (l0 : List Int) (B : Int) (m : Nat) (hm : m < 2 ^ 64) (hB : B < 9223372036854775808) (w : World) (hr0 : Kd.C (Kd.int .u8) w A0 l0.length l0) (hc0 : l0.length ≤ c0) (hl : l0.length < 1000000) :
    Calls Tryd.prog 36 #[.slice A0 l0.length c0, .agg #[.int .i64 B, .int .u64 (m : Int)]] w fun e w' => ∃ v, e = .returned v ∧ Kd.R (Kd.int .u8) 5 w' w.heap.size (fun _ => True) v (putW l0 B m) ∧ Below w.heap.size w w' := by
  have hu38 := Tryd.underlying38
  have HR := Aside0.mk hr0
  have HC := Aside0.mk hc0
  have HAK := Aside0.mk (and_key m hm)
  have HW := Aside0.mk (show IntKind.i64.wrap ((m : Int) / 4294967296) = ((m / 4294967296 : Nat) : Int) by rw [IntKind.wrap_i64]; omega)
  have HW2 := Aside0.mk (show IntKind.i64.wrap (bits BinOp.and .u64 (m : Int) 4294967295) = ((m % 4294967296 : Nat) : Int) by rw [and_key m hm, IntKind.wrap_i64]; omega)
  have HL1 : Aside0 ((putN l0 B).length < 1099511627776) := ⟨by unfold putN; split <;> (try rw [List.length_append]) <;> (try have := putB_length B.toNat (by omega)) <;> omega⟩
  have HL2 : Aside0 ((putN l0 B ++ putB (m / 4294967296)).length < 1099511627776) := ⟨by have h1 := putB_length (m / 4294967296) (by omega); rw [List.length_append]; unfold putN; split <;> (try rw [List.length_append]) <;> (try have := putB_length B.toNat (by omega)) <;> omega⟩
  clear hr0 hc0
  go_enter Tryd.func36, Tryd.ntmps36
  go_wp2_with fail
  have BK := Aside0.mk (World.alloc_heap_new w (.cells #[.int .i64 B, .int .u64 (m : Int)] 38))
  have HB := Aside0.mk (below_alloc (Below.refl w.heap.size w) (.cells #[.int .i64 B, .int .u64 (m : Int)] 38))
  have q1 : (w.alloc (.cells #[.int .i64 B, .int .u64 (m : Int)] 38)).cell? ⟨w.heap.size, 0, none⟩ = some (.int .i64 B) := (blk_cell BK.out 0).trans rfl
  have q2 : (w.alloc (.cells #[.int .i64 B, .int .u64 (m : Int)] 38)).cell? ⟨w.heap.size, 1, none⟩ = some (.int .u64 (m : Int)) := (blk_cell BK.out 1).trans rfl
  have HR1 := Aside0.mk (Kd.C_below HR.out HB.out)
  have hsz : w.heap.size ≤ (w.alloc (.cells #[.int .i64 B, .int .u64 (m : Int)] 38)).heap.size := by simp
  have HSZ := Aside0.mk hsz
  clear BK HR hsz
  generalize (w.alloc (.cells #[.int .i64 B, .int .u64 (m : Int)] 38)) = W3 at q1 q2 HB HR1 HSZ ⊢
  have tok1 := Aside0.mk trivial
  go_region_held3 (fun w' => w'.cell? ⟨w.heap.size, 0, none⟩ = some (.int .i64 B) ∧ w'.cell? ⟨w.heap.size, 1, none⟩ = some (.int .u64 (m : Int)))
    (first | exact ⟨q1, q2⟩ | go_keep)
    (first
      | (go_at_call 54; have _t := tok1; refine (Put_reads A0 c0 l0 B hB _ (by first | exact HR1.out | exact Kd.C_drew HR1.out) HC.out (by omega)).mono ?_; rintro e w1 ⟨A1, c1, rfl, hC1, hc1, hbl⟩; have HR2 := Aside0.mk hC1; have HC2 := Aside0.mk hc1; have p1 := pw_cell_below hbl q1; have p2 := pw_cell_below hbl q2; clear q1 q2; have q1 := p1; have q2 := p2; clear p1 p2 hC1 hc1; have HB' := Aside0.mk (below_step (by first | exact HB.out | exact below_drew HB.out) hbl); clear HB HR1 HC hbl _t tok1; have HB := HB'; clear HB'; have tok2 := Aside0.mk trivial)
      | (go_at_call 54; have _t := tok2; refine calls_of_args (args' := #[.slice A1 (putN l0 B).length c1, .int .i64 ((m / 4294967296 : Nat) : Int)]) (by rw [HW.out]) ?_; refine (Put_pos A1 c1 (putN l0 B) (m / 4294967296) (by omega) _ HR2.out HC2.out HL1.out).mono ?_; rintro e w2 ⟨v2, rfl, hR3, hbl⟩; obtain ⟨A2, c2, rfl, hc2, hC2⟩ := Kd.R_reads hR3; have HR3 := Aside0.mk hC2; have HC3 := Aside0.mk hc2; have p1 := pw_cell_below hbl q1; have p2 := pw_cell_below hbl q2; clear q1 q2; have q1 := p1; have q2 := p2; clear p1 p2 hC2 hc2 hR3; have HB' := Aside0.mk (below_step HB.out hbl); clear HB HR2 HC2 hbl _t tok2; have HB := HB'; clear HB'; have tok3 := Aside0.mk trivial)
      | (go_at_call 54; have _t := tok3; refine calls_of_args (args' := #[.slice A2 (putN l0 B ++ putB (m / 4294967296)).length c2, .int .i64 ((m % 4294967296 : Nat) : Int)]) (by rw [HW2.out, List.length_append]) ?_; refine (Put_pos A2 c2 (putN l0 B ++ putB (m / 4294967296)) (m % 4294967296) (by omega) _ HR3.out HC3.out HL2.out).mono ?_; rintro e w3 ⟨v3, rfl, hR4, hbl⟩; have HR4 := Aside0.mk hR4; have p1 := pw_cell_below hbl q1; have p2 := pw_cell_below hbl q2; clear q1 q2; have q1 := p1; have q2 := p2; clear p1 p2 hR4; have HB' := Aside0.mk (below_step HB.out hbl); have HZ := Aside0.mk HB.out.size; clear HB HR3 HC3 hbl _t tok3; have HB := HB'; clear HB'))
  go_wp2
  obtain ⟨A3, c3, rfl⟩ := Kd.R_slice HR4.out
  go_ret
  exact ⟨_, rfl, Kd.R_lower HR4.out HZ.out, HB.out⟩

end Go.Proofs.YtmokngiokdffdaaDoor.P
