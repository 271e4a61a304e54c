/-
  What the program lays behind bytes: a number, a text, a request, a batch.
-/
import Derived.Test.YtmokngiokdffdaaDh
import Derived.Deep.RegionHeld3
namespace Go.Proofs.Ytmokngiokdffdaa.P
open Go.RowKit Go.Proofs.YtmokngiokdffdaaW.PrintWords Go.Proofs.YtmokngiokdffdaaW.PrintLast Go.Proofs.YtmokngiokdffdaaW.PrintMore
set_option linter.unusedVariables false

theorem Put_neg (A0 : Option Addr) (c0 : Nat) (l0 : List Int) (n : Int) (hn : n < 0) (w : World) (hr0 : Kd.C (Kd.int .u8) w A0 l0.length l0) (hc0 : l0.length ≤ c0) :
    Calls Try.prog 24 #[.slice A0 l0.length c0, .int .i64 n] w fun e w' => e = .returned (.slice A0 l0.length l0.length) ∧ w' = w := by
  have HM := Aside0.mk (Kd.C_max hr0)
  have hneg : decide (n < 0) = true := decide_eq_true hn
  clear hr0
  go_enter Try.func24, Try.ntmps24
  go_wp2
  go_ret
  exact ⟨rfl, rfl⟩

/-- The bytes of a number: none of a negative one. -/
def numB (n : Int) : List Int := if n < 0 then [] else putB n.toNat
theorem numB_nat (n : Nat) : numB (n : Int) = putB n := by unfold numB; rw [if_neg (by omega)]; rfl
theorem putB_length (n : Nat) (hn : n < 9223372036854775808) : (putB n).length ≤ 9 := by
  have := (dg_le 8 n (Nat.lt_trans hn (by decide))).1
  unfold putB
  rw [List.length_cons, beD_length]; omega
theorem numB_length (n : Int) (hn : n < 9223372036854775808) : (numB n).length ≤ 9 := by
  unfold numB
  split
  · exact Nat.zero_le _
  · exact putB_length _ (by omega)

/-- tally.Put at any number: what can be read behind it. -/
theorem Put_reads (A0 : Option Addr) (c0 : Nat) (l0 : List Int) (n : Int) (h1 : n < 9223372036854775808) (w : World) (hr0 : Kd.C (Kd.int .u8) w A0 l0.length l0) (hc0 : l0.length ≤ c0) (hl : l0.length < 1099511627776) :
    Calls Try.prog 24 #[.slice A0 l0.length c0, .int .i64 n] w fun e w' => ∃ A c, e = .returned (.slice A (l0 ++ numB n).length c) ∧ Kd.C (Kd.int .u8) w' A (l0 ++ numB n).length (l0 ++ numB n) ∧ (l0 ++ numB n).length ≤ c ∧ Below w.heap.size w w' := by
  by_cases hn : n < 0
  · refine (Put_neg A0 c0 l0 n hn w hr0 hc0).mono ?_
    rintro e w' ⟨rfl, rfl⟩
    have e1 : l0 ++ numB n = l0 := by unfold numB; rw [if_pos hn, List.append_nil]
    rw [e1]
    exact ⟨_, _, rfl, hr0, Nat.le_refl _, Below.refl _ _⟩
  · obtain ⟨k, rfl⟩ := Int.eq_ofNat_of_zero_le (show 0 ≤ n by omega)
    refine (Put_pos A0 c0 l0 k (by omega) w hr0 hc0 hl).mono ?_
    rintro e w' ⟨v, rfl, hR, hb⟩
    obtain ⟨A, c, rfl, hc, hC⟩ := Kd.R_reads hR
    rw [numB_nat]
    exact ⟨A, c, rfl, hC, hc, hb⟩

theorem Put_named (l1 : List Int) (A0 : Option Addr) (c0 : Nat) (l0 : List Int) (n : Int) (e1 : l0 ++ numB n = l1) (h1 : n < 9223372036854775808) (w : World) (hr0 : Kd.C (Kd.int .u8) w A0 l0.length l0) (hc0 : l0.length ≤ c0) (hl : l0.length < 1099511627776) :
    Calls Try.prog 24 #[.slice A0 l0.length c0, .int .i64 n] w fun e w' => ∃ A c, e = .returned (.slice A l1.length c) ∧ Kd.C (Kd.int .u8) w' A l1.length l1 ∧ l1.length ≤ c ∧ Below w.heap.size w w' := by
  subst e1; exact Put_reads A0 c0 l0 n h1 w hr0 hc0 hl

set_option maxRecDepth 100000 in
set_option maxHeartbeats 4000000 in
/-- tally.PutText. -/
theorem PutText_any (A0 : Option Addr) (c0 : Nat) (l0 : List Int) (s : ByteArray) (hs : s.size < 1099511627776) (w : World) (hr0 : Kd.C (Kd.int .u8) w A0 l0.length l0) (hc0 : l0.length ≤ c0) (hl : l0.length < 1000000000) :
    Calls Try.prog 32 #[.slice A0 l0.length c0, .string s] w fun e w' => ∃ v, e = .returned v ∧ Kd.R (Kd.int .u8) 5 w' w.heap.size (fun _ => True) v (l0 ++ putB s.size ++ bytesOf s) ∧ Below w.heap.size w w' := by
  have HR0 := Aside0.mk hr0
  have HC0 := Aside0.mk hc0
  have HLL : Aside0 ((l0 ++ putB s.size).length + s.size ≤ 140737488355328) := ⟨by have := putB_length s.size (by omega); rw [List.length_append]; omega⟩
  have HS := Aside0.mk hs
  have HL := Aside0.mk hl
  clear hr0 hc0 hs hl
  go_enter Try.func32, Try.ntmps32
  go_wp2_with (first
    | (go_at_call 24; (with_reducible refine (Put_pos A0 c0 l0 s.size (by have := HS.out; omega) _ HR0.out HC0.out (by have := HL.out; omega)).mono ?_); rintro e w5 ⟨v1, rfl, hR, hbl⟩; have HO1 := Aside0.mk hR; have HB := Aside0.mk hbl; clear hR hbl)
    | (at_builtin; refine print_append_str (w0 := w) w.heap.size rfl (.tmp 8) _ 53 9 5 rfl Try.underlying53 Try.underlying9 info5 v1 (l0 ++ putB s.size) s rfl rfl ?aO ?aB ?aS ?aL ?_; (case aB => exact HB.out); (case aO => exact Kd.own_of_R HO1.out); (case aS => exact HB.out.size); (case aL => exact HLL.out); intro v2 w6 ho0 hb hg; have HO2 := Aside0.mk (Kd.R_of_own (h1 := fun _ => rfl) (ok := fun _ => True) ho0 (fun _ _ => trivial)); have HB2 := Aside0.mk hb; clear ho0 hb hg))
  go_ret
  exact ⟨_, rfl, HO2.out, HB2.out⟩

/-- A request as data. -/
structure Req where
  (client num : Int)
  data : ByteArray
  tag : List Int
def Req.cells (r : Req) : List Value := .int .i64 r.client :: .int .i64 r.num :: .string r.data :: nums .u8 r.tag
structure Req.ok (r : Req) : Prop where
  client : -9223372036854775808 ≤ r.client ∧ r.client < 9223372036854775808
  num : -9223372036854775808 ≤ r.num ∧ r.num < 9223372036854775808
  tag : r.tag.length = 16
  byte : ∀ x ∈ r.tag, 0 ≤ x ∧ x < 256
/-- The bytes of a request. -/
def reqB (r : Req) : List Int := numB r.client ++ numB r.num ++ putB r.data.size ++ bytesOf r.data ++ r.tag
theorem Req.cells_length {r : Req} (h : r.ok) : r.cells.length = 19 := by unfold Req.cells; simp [nums_length, h.tag]

theorem tag_reads {w : World} {g : Nat} {r : Req} (hr : r.ok) (h : w.heap[g]? = some (.cells r.cells.toArray 52 (0, 0))) : ReadsInt w .u8 (some ⟨g, 3, none⟩) 16 r.tag := by
  refine ⟨hr.tag, by decide, fun _ => ⟨_, rfl, fun j hj => ?_⟩⟩
  rw [add_at, blk_cell h, List.getElem?_toArray]
  have e : 3 + j = j + 1 + 1 + 1 := by omega
  unfold Req.cells
  rw [e, List.getElem?_cons_succ, List.getElem?_cons_succ, List.getElem?_cons_succ]
  have hj2 : j < r.tag.length := by rw [hr.tag]; exact hj
  simp [nums, hj2, List.getD_eq_getElem?_getD]

set_option maxRecDepth 100000 in
set_option maxHeartbeats 8000000 in
theorem ReqPut_any (A0 : Option Addr) (c0 : Nat) (l0 : List Int) (r : Req) (hr : r.ok) (hd : r.data.size < 1000000) (w : World) (hr0 : Kd.C (Kd.int .u8) w A0 l0.length l0) (hc0 : l0.length ≤ c0) (hl : l0.length < 100000000) :
    Calls Try.prog 25 #[.slice A0 l0.length c0, .agg r.cells.toArray] w fun e w' => ∃ v, e = .returned v ∧ Kd.R (Kd.int .u8) 5 w' w.heap.size (fun _ => True) v (l0 ++ reqB r) ∧ Below w.heap.size w w' := by
  have HR := Aside0.mk hr0
  have HC := Aside0.mk hc0
  have HQ := Aside0.mk hr
  have HN1 := numB_length r.client hr.client.2
  have HN2 := numB_length r.num hr.num.2
  obtain ⟨l1, hl1⟩ : ∃ l1, l0 ++ numB r.client = l1 := ⟨_, rfl⟩
  obtain ⟨l2, hl2⟩ : ∃ l2, l1 ++ numB r.num = l2 := ⟨_, rfl⟩
  have HE1 := Aside0.mk hl1
  have HE2 := Aside0.mk hl2
  have HL1 : Aside0 (l1.length < 1099511627776) := ⟨by rw [← hl1, List.length_append]; omega⟩
  have HL2 : Aside0 (l2.length < 1000000000) := ⟨by rw [← hl2, ← hl1, List.length_append, List.length_append]; omega⟩
  have HD : Aside0 (r.data.size < 1099511627776) := ⟨by omega⟩
  have HL0 : Aside0 (l0.length < 1099511627776) := ⟨by omega⟩
  clear hr0 hc0 hr hd hl HN1 HN2 hl1 hl2
  go_enter Try.func25, Try.ntmps25
  go_wp2_with (refine box_ev r.cells.toArray 52 _ rfl rfl rfl ?_; intro W3 BK HB HSZ)
  have q1 : W3.cell? ⟨w.heap.size, 0, none⟩ = some (.int .i64 r.client) := (blk_cell BK.out 0).trans rfl
  have q2 : W3.cell? ⟨w.heap.size, 1, none⟩ = some (.int .i64 r.num) := (blk_cell BK.out 1).trans rfl
  have q3 : W3.cell? ⟨w.heap.size, 2, none⟩ = some (.string r.data) := (blk_cell BK.out 2).trans rfl
  have HR1 := Aside0.mk (Kd.C_below HR.out HB.out)
  have tok1 := Aside0.mk trivial
  go_region_held3 (fun w' => (w'.cell? ⟨w.heap.size, 0, none⟩ = some (.int .i64 r.client) ∧ w'.cell? ⟨w.heap.size, 1, none⟩ = some (.int .i64 r.num)) ∧ w'.cell? ⟨w.heap.size, 2, none⟩ = some (.string r.data))
    (first | exact ⟨⟨q1, q2⟩, q3⟩ | go_keep)
    (first
      | (go_at_call 24; have _t := tok1; (with_reducible refine (Put_named l1 A0 c0 l0 r.client HE1.out HQ.out.client.2 _ ?s1 HC.out HL0.out).mono ?_); (case s1 => first | exact HR1.out | exact Kd.C_drew HR1.out); rintro e w1 ⟨A1, c1, rfl, hC1, hc1, hbl⟩; have HR2 := Aside0.mk hC1; have HC2 := Aside0.mk hc1; have p1 := pw_cell_below hbl q1; have p2 := pw_cell_below hbl q2; have p3 := pw_cell_below hbl q3; clear q1 q2 q3; have q1 := p1; have q2 := p2; have q3 := p3; clear p1 p2 p3 hC1 hc1; have HB1 := Aside0.mk (by first | exact hbl | exact ⟨hbl.os, hbl.tape, hbl.output, hbl.size, hbl.block⟩ : Below W3.heap.size W3 w1); clear HR1 HC hbl _t tok1; have tok2 := Aside0.mk trivial)
      | (go_at_call 24; have _t := tok2; (with_reducible refine (Put_named l2 A1 c1 l1 r.num HE2.out HQ.out.num.2 _ HR2.out HC2.out HL1.out).mono ?_); rintro e w2 ⟨A2, c2, rfl, hC1, hc1, hbl⟩; have HR3 := Aside0.mk hC1; have HC3 := Aside0.mk hc1; have p1 := pw_cell_below hbl q1; have p2 := pw_cell_below hbl q2; have p3 := pw_cell_below hbl q3; clear q1 q2 q3; have q1 := p1; have q2 := p2; have q3 := p3; clear p1 p2 p3 hC1 hc1; have HB2 := Aside0.mk (below_step HB1.out hbl); clear HB1 HR2 HC2 hbl _t tok2; have tok3 := Aside0.mk trivial)
      | (go_at_call 32; have _t := tok3; (with_reducible refine (PutText_any A2 c2 l2 r.data HD.out _ HR3.out HC3.out HL2.out).mono ?_); rintro e w4 ⟨v4, rfl, hR4, hbl⟩; have HR4 := Aside0.mk hR4; have p1 := pw_cell_below hbl q1; have p2 := pw_cell_below hbl q2; have p3 := pw_cell_below hbl q3; clear q1 q2 q3; have q1 := p1; have q2 := p2; have q3 := p3; clear p1 p2 p3 hR4; have HB3 := Aside0.mk (below_step HB2.out hbl); have HZ := Aside0.mk HB2.out.size; clear HB2 HR3 HC3 hbl _t tok3))
  have hb4 := (HB3.out.block _ (blk_lt BK.out)).trans BK.out
  have HT := Aside0.mk (Kd.C_of_reads (d := (0 : Int)) (h1 := fun _ => rfl) (tag_reads HQ.out hb4))
  have HV := Aside0.mk (Kd.R_lower HR4.out (Nat.le_trans HB.out.size HZ.out))
  have HBW := Aside0.mk (below_step HB.out HB3.out)
  have HLL : Aside0 (((l2 ++ putB r.data.size ++ bytesOf r.data).length + 16) * 1 ≤ 140737488355328) := ⟨by
    have h1 := putB_length r.data.size (by have := HD.out; omega)
    have h2 := HL2.out
    have h3 := HD.out
    rw [List.length_append, List.length_append, bytesOf_length]; omega⟩
  clear q1 q2 q3 HR4 HZ HB3 hb4
  go_wp2_with ((with_reducible refine gate_builtin (b := .append) (xs := #[.tmp 15, .tmp 17]) rfl ?_); at_builtin; refine Kd.R_append_row (fun x : Int => .int .u8 x) (0 : Int) (w0 := w) w.heap.size rfl (.tmp 15) (.tmp 17) 53 5 (.int .u8 0) 1 rfl Try.underlying53 info5 rfl (by decide) v4 (l2 ++ putB r.data.size ++ bytesOf r.data) r.tag (some ⟨w.heap.size, 3, none⟩) 16 16 (fun _ => True) rfl rfl (fun _ _ => trivial) HV.out HT.out HBW.out HBW.out.size HLL.out ?_; intro v5 w5 ho hb hg _; have HO5 := Aside0.mk ho; have HB5 := Aside0.mk hb; clear ho hb hg)
  go_ret
  have e1 : l0 ++ reqB r = l2 ++ putB r.data.size ++ bytesOf r.data ++ r.tag := by
    unfold reqB
    rw [← HE2.out, ← HE1.out]
    simp only [List.append_assoc]
  rw [e1]
  exact ⟨_, rfl, HO5.out, HB5.out⟩
end Go.Proofs.Ytmokngiokdffdaa.P
