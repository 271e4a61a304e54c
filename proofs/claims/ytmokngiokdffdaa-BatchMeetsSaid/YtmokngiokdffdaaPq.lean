/-
  A batch as data; what the program lays behind bytes for it.
-/
import Derived.Test.YtmokngiokdffdaaPp
namespace Go.Proofs.Ytmokngiokdffdaa.P
open Go.RowKit Go.Proofs.YtmokngiokdffdaaW.PrintWords Go.Proofs.YtmokngiokdffdaaW.PrintLast Go.Proofs.YtmokngiokdffdaaW.PrintMore
set_option linter.unusedVariables false

/-- A row of requests that is read. -/
structure ReqsAt (w : World) (A : Option Addr) (rs : List Req) : Prop where
  size : rs.length ≤ 9223372036854775807
  ok : ∀ r ∈ rs, r.ok
  cell : 0 < rs.length → ∃ ad, A = some ad ∧ ∀ i r, rs[i]? = some r → ∀ j v, r.cells[j]? = some v → w.cell? ((ad.add (i * 19)).add j) = some v
theorem ReqsAt.below {w w1 : World} {A : Option Addr} {rs : List Req} (h : ReqsAt w A rs) (hb : Below w.heap.size w w1) : ReqsAt w1 A rs :=
  ⟨h.size, h.ok, fun hp => by
    obtain ⟨ad, e, hc⟩ := h.cell hp
    exact ⟨ad, e, fun i r hi j v hj => pw_cell_below hb (hc i r hi j v hj)⟩⟩

/-- The bytes of a batch. -/
def batB (noop : Bool) (rs : List Req) : List Int := if noop then putB 0 else putB (rs.length + 1) ++ rs.flatMap reqB
/-- The batch's own value. -/
def batV (noop : Bool) (A : Option Addr) (rs : List Req) (c : Nat) : Value := .agg #[.bool noop, .slice A rs.length c]

theorem Put_zero (A0 : Option Addr) (c0 : Nat) (l0 : List Int) (w : World) (hr0 : Kd.C (Kd.int .u8) w A0 l0.length l0) (hc0 : l0.length ≤ c0) (hl : l0.length < 1099511627776) :
    Calls Try.prog 24 #[.slice A0 l0.length c0, .int .i64 0] w fun e w' => ∃ v, e = .returned v ∧ Kd.R (Kd.int .u8) 5 w' w.heap.size (fun _ => True) v (l0 ++ putB 0) ∧ Below w.heap.size w w' :=
  Put_pos A0 c0 l0 0 (by decide) w hr0 hc0 hl
theorem Put_succ (l1 : List Int) (A0 : Option Addr) (c0 : Nat) (l0 : List Int) (n : Nat) (e1 : l0 ++ putB (n + 1) = l1) (hn : n < 100000) (w : World) (hr0 : Kd.C (Kd.int .u8) w A0 l0.length l0) (hc0 : l0.length ≤ c0) (hl : l0.length < 1099511627776) :
    Calls Try.prog 24 #[.slice A0 l0.length c0, .int .i64 ((n : Int) + 1)] w fun e w' => ∃ v, e = .returned v ∧ Kd.R (Kd.int .u8) 5 w' w.heap.size (fun _ => True) v l1 ∧ Below w.heap.size w w' := by
  subst e1
  exact Put_pos A0 c0 l0 (n + 1) (by omega) w hr0 hc0 hl
theorem size52 {r : Req} (h : r.ok) : (Try.prog.info? 52).map (·.size) = some r.cells.length := by rw [Req.cells_length h]; kernel_rfl
theorem size52' {r : Req} (h : r.ok) : (Try.prog.info? 52).map (·.size) = some r.cells.toArray.size := by rw [List.size_toArray]; exact size52 h
def zReq : Req := ⟨0, 0, ByteArray.empty, List.replicate 16 0⟩

theorem zReq_size {r : Req} (h : r.ok) : zReq.cells.toArray.size = r.cells.toArray.size := by rw [List.size_toArray, List.size_toArray, Req.cells_length h]; rfl
theorem cells_one (r : Req) : r.cells.toArray.all (·.oneCell') = true := by
  unfold Req.cells
  simp [nums, Value.oneCell']

set_option maxRecDepth 100000 in
set_option maxHeartbeats 4000000 in
theorem BatPut_any (A0 : Option Addr) (c0 : Nat) (l0 : List Int) (noop : Bool) (A : Option Addr) (rs : List Req) (c : Nat) (w : World) (hr0 : Kd.C (Kd.int .u8) w A0 l0.length l0) (hc0 : l0.length ≤ c0) (hl : l0.length < 1000000)
    (hR : ReqsAt w A rs) (hn : rs.length < 100000) (hd : ∀ r ∈ rs, r.data.size < 1000000) (htot : (rs.flatMap reqB).length < 90000000) :
    Calls Try.prog 16 #[.slice A0 l0.length c0, batV noop A rs c] w fun e w' => ∃ v, e = .returned v ∧ Kd.R (Kd.int .u8) 5 w' w.heap.size (fun _ => True) v (l0 ++ batB noop rs) ∧ Below w.heap.size w w' := by
  have HR0 := Aside0.mk hr0
  have HC0 := Aside0.mk hc0
  have HL0 : Aside0 (l0.length < 1099511627776) := ⟨by omega⟩
  have HQ := Aside0.mk hR
  have HD := Aside0.mk hd
  have HTOT := Aside0.mk htot
  have HL := Aside0.mk hl
  have hnI : (rs.length : Int) < 100000 := by omega
  clear hr0 hc0 hR hd htot hl
  unfold batV
  by_cases hno : noop = true
  · subst hno
    go_enter Try.func16, Try.ntmps16
    go_wp2_with (first
      | (refine box_ev #[.bool true, .slice A rs.length c] 24 _ rfl rfl rfl ?_; intro w1 BK HB HSZ; have q1 : w1.cell? ⟨w.heap.size, 0, none⟩ = some (.bool true) := (blk_cell BK.out 0).trans rfl; have HR1 := Aside0.mk (Kd.C_below HR0.out HB.out))
      | (go_at_call 24; (with_reducible refine (Put_zero A0 c0 l0 _ HR1.out HC0.out HL0.out).mono ?_); rintro e w2 ⟨v2, rfl, hR, hbl⟩; have HO := Aside0.mk hR; have HB2 := Aside0.mk hbl; clear hR hbl))
    obtain ⟨A1, c1, rfl⟩ := Kd.R_slice HO.out
    go_ret
    exact ⟨_, rfl, Kd.R_lower HO.out HB.out.size, below_step HB.out HB2.out⟩
  · have hno2 : noop = false := by simpa using hno
    subst hno2
    clear hno
    obtain ⟨l1, hl1⟩ : ∃ l1, l0 ++ putB (rs.length + 1) = l1 := ⟨_, rfl⟩
    have HE1 := Aside0.mk hl1
    clear hl1
    go_enter Try.func16, Try.ntmps16
    go_wp2_with (first
      | (refine box_ev #[.bool false, .slice A rs.length c] 24 _ rfl rfl rfl ?_; intro w1 BK HB HSZ; have q1 : w1.cell? ⟨w.heap.size, 0, none⟩ = some (.bool false) := (blk_cell BK.out 0).trans rfl; have q2 : w1.cell? ⟨w.heap.size, 1, none⟩ = some (.slice A rs.length c) := (blk_cell BK.out 1).trans rfl; have HR1 := Aside0.mk (Kd.C_below HR0.out HB.out))
      | (go_at_call 24; (with_reducible refine (Put_succ l1 A0 c0 l0 rs.length HE1.out hn _ HR1.out HC0.out HL0.out).mono ?_); rintro e w2 ⟨v2, rfl, hR, hbl⟩; have HO := Aside0.mk hR; have HB2 := Aside0.mk hbl; have q3 := pw_cell_below hbl q1; have q4 := pw_cell_below hbl q2; clear q1 q2; clear hR hbl))
    have HBW := Aside0.mk (below_step HB.out HB2.out)
    have HV : Aside0 (Kd.R (Kd.int .u8) 5 w2 w.heap.size (fun _ => True) v2 (l1 ++ (rs.take 0).flatMap reqB)) := ⟨by rw [List.take_zero, List.flatMap_nil, List.append_nil]; exact Kd.R_lower HO.out HB.out.size⟩
    clear q3 q4 HO HB2 HR1
    go_loopw [0, 20] (fun v0 v20 wr => ∃ k : Nat, v20 = .int .i64 k ∧ Aside0 (k ≤ rs.length) ∧ Aside0 (Kd.R (Kd.int .u8) 5 wr w.heap.size (fun _ => True) v0 (l1 ++ (rs.take k).flatMap reqB)) ∧ Aside0 (Below w.heap.size w wr)) (fun _ v20 _ => rs.length - (intOf v20).toNat)
    case atStart => exact ⟨0, rfl, ⟨by omega⟩, HV, HBW⟩
    case round =>
      clear HV HBW
      obtain ⟨k, rfl, HK, HV, HBW⟩ := hrel
      by_cases hk : k < rs.length
      · have c0 : decide ((k : Int) < (rs.length : Int)) = true := decide_eq_true (by omega)
        obtain ⟨r, hr⟩ : ∃ r, rs[k]? = some r := ⟨_, List.getElem?_eq_getElem hk⟩
        have hmem : r ∈ rs := List.mem_of_getElem? hr
        have HOK := Aside0.mk (HQ.out.ok r hmem)
        obtain ⟨ad, rfl, hcell⟩ := (HQ.out.below HBW.out).cell (by omega)
        have HCELL := Aside0.mk (fun j v hj => hcell k r hr j v hj)
        have HRK := Aside0.mk hr
        have HDK := Aside0.mk (HD.out r hmem)
        clear hr hmem hcell
        obtain ⟨bk, hbk⟩ : ∃ bk, l1 ++ (rs.take k).flatMap reqB = bk := ⟨_, rfl⟩
        have hbl : bk.length < 100000000 := by
          have h1 := HTOT.out
          have h2 : ((rs.take k).flatMap reqB).length ≤ (rs.flatMap reqB).length := by
            rw [← List.take_append_drop k rs, List.flatMap_append, List.length_append, List.take_append_of_le_length (by rw [List.length_take]; omega), List.take_take]
            simp
          have h3 := putB_length (rs.length + 1) (by omega)
          have h4 := HE1.out
          have h5 := HL.out
          rw [← hbk, ← h4, List.length_append, List.length_append]
          omega
        have HBL := Aside0.mk hbl
        have hv0 := HV.out
        rw [hbk] at hv0
        have HBK := Aside0.mk hbk
        obtain ⟨A1, c1, hv, hc1, hC1⟩ := Kd.R_reads hv0
        clear hbl hv0 hbk HV
        subst hv
        have HC1 := Aside0.mk hC1
        have HCC1 := Aside0.mk hc1
        clear hC1 hc1
        go_wp2_with (first
          | (refine load_ev 52 _ (ad.add (k * 19)) r.cells _ rfl rfl rfl HCELL.out Try.underlying52 rfl (size52 HOK.out) ?_)
          | (refine alloc_ev zReq.cells.toArray 52 rfl rfl (by kernel_rfl) ?_; intro w5 BK5 HB5 HS5)
          | (refine store_ev wr.heap.size r.cells.toArray zReq.cells.toArray 52 52 _ _ rfl rfl rfl rfl BK5.out (size52' HOK.out) (zReq_size HOK.out) (cells_one r) ?_; intro w6 BK6 HK6; have HB6 := Aside0.mk (below_kg HB5.out HB5.out.size HK6.out (Nat.le_refl _)))
          | (refine wpList_load_row rfl 52 _ rfl wr.heap.size rfl 52 _ (0, 0) _ BK6.out Try.underlying52 rfl (size52' HOK.out) ?_)
          | (go_at_call 25; (with_reducible refine (ReqPut_any A1 c1 bk r HOK.out HDK.out _ ?s1 HCC1.out HBL.out).mono ?_); (case s1 => exact Kd.C_below HC1.out HB6.out); rintro e w7 ⟨v7, rfl, hR, hbl⟩; have HO7 := Aside0.mk hR; have HB7 := Aside0.mk hbl; clear hR hbl))
        go_roundw
        case rel =>
          refine ⟨k + 1, by go_num, ⟨by omega⟩, ⟨?_⟩, ⟨below_step (below_step HBW.out HB6.out) HB7.out⟩⟩
          have h := Kd.R_lower HO7.out (Nat.le_trans HBW.out.size HB6.out.size)
          have e : bk ++ reqB r = l1 ++ (rs.take (k + 1)).flatMap reqB := by
            rw [← HBK.out, List.take_add_one, HRK.out, List.flatMap_append, List.append_assoc]
            simp
          rw [← e]
          exact h
        case measure => simp [intOf]; omega
      · have c0 : decide ((k : Int) < (rs.length : Int)) = false := decide_eq_false (by omega)
        have hk2 : k = rs.length := by have := HK.out; omega
        have HF : Aside0 (Kd.R (Kd.int .u8) 5 wr w.heap.size (fun _ => True) u0 (l0 ++ batB false rs)) := ⟨by
          have h := HV.out
          rw [hk2, List.take_length, ← HE1.out, List.append_assoc] at h
          exact h⟩
        clear HV hk2
        go_wp2_with fail
        obtain ⟨A1, c1, rfl⟩ := Kd.R_slice HF.out
        go_ret
        exact ⟨_, rfl, HF.out, HBW.out⟩

/-- What a batch must be for its bytes and its digest to be told. -/
structure Small (rs : List Req) : Prop where
  num : rs.length < 100000
  data : ∀ r ∈ rs, r.data.size < 1000000
  all : (rs.flatMap reqB).length < 90000000
theorem Small.nil : Small [] := ⟨by decide, fun r h => by simp at h, by decide⟩

theorem BatPut_nil (noop : Bool) (A : Option Addr) (rs : List Req) (c : Nat) (w : World) (hR : ReqsAt w A rs) (hS : Small rs) :
    Calls Try.prog 16 #[.slice none 0 0, .agg #[.bool noop, .slice A rs.length c]] w fun e w' => ∃ v, e = .returned v ∧ Kd.R (Kd.int .u8) 5 w' w.heap.size (fun _ => True) v (batB noop rs) ∧ Below w.heap.size w w' :=
  BatPut_any none 0 [] noop A rs c w (Kd.C_nil _ _) (Nat.le_refl _) (by decide) hR hS.num hS.data hS.all

theorem bytesOf_byte (s : ByteArray) : ∀ x ∈ bytesOf s, 0 ≤ x ∧ x < 256 := by
  intro x hx
  unfold bytesOf at hx
  obtain ⟨b, _, rfl⟩ := List.mem_map.1 hx
  have := b.toNat_lt
  omega
theorem putB_byte (n : Nat) (hn : n < 9223372036854775808) : ∀ x ∈ putB n, 0 ≤ x ∧ x < 256 := by
  intro x hx
  unfold putB at hx
  rcases List.mem_cons.1 hx with rfl | hx
  · have := (dg_le 8 n (Nat.lt_trans hn (by decide))).1
    omega
  · obtain ⟨i, _, rfl⟩ := List.mem_map.1 hx
    omega
theorem numB_byte (n : Int) (hn : n < 9223372036854775808) : ∀ x ∈ numB n, 0 ≤ x ∧ x < 256 := by
  intro x hx
  unfold numB at hx
  split at hx
  · simp at hx
  · exact putB_byte _ (by omega) x hx
theorem reqB_byte (r : Req) (h : r.ok) (hd : r.data.size < 1000000) : ∀ x ∈ reqB r, 0 ≤ x ∧ x < 256 := by
  intro x hx
  unfold reqB at hx
  rcases List.mem_append.1 hx with hx | hx
  · rcases List.mem_append.1 hx with hx | hx
    · rcases List.mem_append.1 hx with hx | hx
      · rcases List.mem_append.1 hx with hx | hx
        · exact numB_byte _ h.client.2 x hx
        · exact numB_byte _ h.num.2 x hx
      · exact putB_byte _ (by omega) x hx
    · exact bytesOf_byte _ x hx
  · exact h.byte x hx
theorem batB_byte (noop : Bool) (rs : List Req) (hok : ∀ r ∈ rs, r.ok) (hS : Small rs) : ∀ x ∈ batB noop rs, 0 ≤ x ∧ x < 256 := by
  intro x hx
  unfold batB at hx
  split at hx
  · exact putB_byte 0 (by decide) x hx
  · rcases List.mem_append.1 hx with hx | hx
    · have := hS.num
      exact putB_byte _ (by omega) x hx
    · obtain ⟨r, hr, hx⟩ := List.mem_flatMap.1 hx
      exact reqB_byte r (hok r hr) (hS.data r hr) x hx
theorem batB_length (noop : Bool) (rs : List Req) (hS : Small rs) : (batB noop rs).length < 100000000 := by
  unfold batB
  have h1 := hS.all
  have h2 := hS.num
  split
  · have := putB_length 0 (by decide); omega
  · have := putB_length (rs.length + 1) (by omega)
    rw [List.length_append]; omega

/-- A batch's digest. -/
def batD (noop : Bool) (rs : List Req) : List Int := dig (66 :: batB noop rs)

section
variable {P : Program} {ops : Array Oper} {rest : List Oper} {o : Oper} {a : Act} {Q : Exit → Act → World → Prop} {W : World}
/-- A slice literal. -/
theorem lit_ev (cs : Array Value) (t T : TypeId) (n : Nat) (parts : Array (Nat × Operand)) (hgd : o.guard = none) (ho : o.op = .buildSlice T n parts)
    (hrun : (execOp a.eval o).run P W = .ok (.value (.slice (some ⟨W.heap.size, 0, none⟩) n n)) (W.alloc (.cells cs t (0, 0))))
    (h : ∀ w1, Aside0 (w1.heap[W.heap.size]? = some (.cells cs t (0, 0))) → Aside0 (Below W.heap.size W w1) → Aside0 (w1.heap.size = W.heap.size + 1) → wpList P ops Q rest (a.put o.dst (.slice (some ⟨W.heap.size, 0, none⟩) n n)) w1) : wpList P ops Q (o :: rest) a W :=
  Kd.event_run hgd hrun (h _ ⟨blk_new W _⟩ ⟨below_alloc (Below.refl _ _) _⟩ ⟨by simp⟩)
end

/-- digest.Sum of one byte's literal and of a row. -/
theorem Sum_two (b : Int) (hb : 0 ≤ b ∧ b < 256) (g1 gp : Nat) (A : Option Addr) (l : List Int) (c : Nat) (w : World) (h1 : w.heap[g1]? = some (.cells #[.int .u8 b] 5 (0, 0)))
    (hp : w.heap[gp]? = some (.cells #[.slice (some ⟨g1, 0, none⟩) 1 1, .slice A l.length c] 53 (0, 0))) (hr : Kd.C (Kd.int .u8) w A l.length l) (hc : l.length ≤ c) (hby : ∀ x ∈ l, 0 ≤ x ∧ x < 256) (hlen : l.length < 100000000) :
    Calls Try.prog 26 #[.slice (some ⟨gp, 0, none⟩) 2 2] w fun e w' => e = .returned (.agg (nums .u8 (dig (b :: l))).toArray) ∧ Below w.heap.size w w' := by
  have h := Sum_any 2 gp (fun k => if k = 0 then some ⟨g1, 0, none⟩ else A) (fun k => if k = 0 then [b] else l) (fun k => if k = 0 then 1 else c) w
    (fun k hk => by
      rcases (show k = 0 ∨ k = 1 by omega) with rfl | rfl
      · exact (blk_cell hp 0).trans rfl
      · exact (blk_cell hp 1).trans rfl)
    (fun k hk => by
      rcases (show k = 0 ∨ k = 1 by omega) with rfl | rfl
      · exact reads_blk (l := [b]) h1 (show 1 ≤ 9223372036854775807 by decide)
      · exact reads_of_kd hr)
    (fun k hk => by
      rcases (show k = 0 ∨ k = 1 by omega) with rfl | rfl
      · exact Nat.le_refl _
      · exact hc)
    (fun k hk => by
      rcases (show k = 0 ∨ k = 1 by omega) with rfl | rfl
      · intro x hx
        rw [List.mem_singleton.1 hx]; exact hb
      · exact hby)
    (by rw [partsTo_succ, partsTo_succ]; simp [partsTo]; omega) (by decide)
  have e : partsTo (fun k => if k = 0 then [b] else l) 2 = b :: l := by rw [partsTo_succ, partsTo_succ]; simp [partsTo]
  rw [e] at h
  exact h

set_option maxRecDepth 100000 in
set_option maxHeartbeats 4000000 in
theorem BatDigest_any (noop : Bool) (A : Option Addr) (rs : List Req) (c : Nat) (w : World) (hR : ReqsAt w A rs) (hS : Small rs) :
    Calls Try.prog 18 #[.agg #[.bool noop, .slice A rs.length c]] w fun e w' => e = .returned (.agg (nums .u8 (batD noop rs)).toArray) ∧ Below w.heap.size w w' := by
  have HQ := Aside0.mk hR
  have HS := Aside0.mk hS
  clear hR hS
  go_enter Try.func18, Try.ntmps18
  go_wp2_with (first
    | (refine box_ev #[.bool noop, .slice A rs.length c] 24 _ rfl rfl rfl ?_; intro w1 BK1 HB1 HS1)
    | (refine alloc_ev (nums .u8 zerosU8).toArray 29 rfl rfl (by kernel_rfl) ?_; intro w2 BK2 HB2 HS2)
    | (refine lit_ev #[.int .u8 66] 5 53 1 _ rfl rfl (by kernel_rfl) ?_; intro w3 BK3 HB3 HS3; have HBW := Aside0.mk (below_step (below_step HB1.out HB2.out) HB3.out); have BKL := Aside0.mk ((HB3.out.block _ (Nat.lt_of_lt_of_le (blk_lt BK1.out) HB2.out.size)).trans ((HB2.out.block _ (blk_lt BK1.out)).trans BK1.out)); have BKD := Aside0.mk ((HB3.out.block _ (blk_lt BK2.out)).trans BK2.out))
    | (refine wpList_load_row rfl 24 _ rfl w.heap.size rfl 24 #[.bool noop, .slice A rs.length c] (0, 0) _ BKL.out Try.underlying24 rfl (by kernel_rfl) ?_)
    | (go_at_call 16; (with_reducible refine (BatPut_nil noop A rs c _ (HQ.out.below HBW.out) HS.out).mono ?_); rintro e w4 ⟨v4, rfl, hR, hbl⟩; obtain ⟨A4, c4, rfl, hc4, hC4⟩ := Kd.R_reads hR; have HC4 := Aside0.mk hC4; have HCC4 := Aside0.mk hc4; have HB4 := Aside0.mk hbl; have HBW4 := Aside0.mk (below_step HBW.out hbl); clear hR hbl hC4 hc4; have BK34 := Aside0.mk ((HB4.out.block _ (blk_lt BK3.out)).trans BK3.out); have BKD4 := Aside0.mk ((HB4.out.block _ (blk_lt BKD.out)).trans BKD.out))
    | (refine lit_ev #[.slice (some ⟨w2.heap.size, 0, none⟩) 1 1, .slice A4 (batB noop rs).length c4] 53 72 2 _ rfl rfl (by kernel_rfl) ?_; intro w5 BK5 HB5 HS5; have HBW5 := Aside0.mk (below_step HBW4.out HB5.out); have BK35 := Aside0.mk ((HB5.out.block _ (blk_lt BK34.out)).trans BK34.out); have BKD5 := Aside0.mk ((HB5.out.block _ (blk_lt BKD4.out)).trans BKD4.out); have HC5 := Aside0.mk (Kd.C_below HC4.out HB5.out))
    | (go_at_call 26; (with_reducible refine (Sum_two 66 (by decide) w2.heap.size w4.heap.size A4 (batB noop rs) c4 _ BK35.out BK5.out HC5.out HCC4.out (batB_byte noop rs HQ.out.ok HS.out) (batB_length noop rs HS.out)).mono ?_); rintro e w6 ⟨rfl, hbl⟩; have HBW6 := Aside0.mk (below_step HBW5.out hbl); have BKD6 := Aside0.mk ((hbl.block _ (blk_lt BKD5.out)).trans BKD5.out); clear hbl)
    | (refine store_ev w1.heap.size (nums .u8 (dig (66 :: batB noop rs))).toArray (nums .u8 zerosU8).toArray 29 29 _ _ rfl rfl rfl rfl BKD6.out (size29 (dig_length _)) (by rw [List.size_toArray, List.size_toArray, nums_length, nums_length, dig_length]; rfl) (nums_one _ _) ?_; intro w8 BK8 HK8))
  refine bodyPost_ret (results_cell_row rfl _ _ w1.heap.size 29 (nums .u8 (dig (66 :: batB noop rs))).toArray (0, 0) _ rfl BK8.out Try.underlying29 rfl (size29 (dig_length _))) rfl ?_
  exact ⟨rfl, below_kg HBW6.out HBW6.out.size HK8.out HB1.out.size⟩
end Go.Proofs.Ytmokngiokdffdaa.P
