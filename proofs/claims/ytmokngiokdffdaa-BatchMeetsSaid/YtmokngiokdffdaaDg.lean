/-
  digest's stream ended: the padding, and the digest's bytes.
-/
import Derived.Test.YtmokngiokdffdaaDf
import Derived.Deep.LoopGhost
namespace Go.Proofs.Ytmokngiokdffdaa.P
open Go.RowKit Go.Proofs.YtmokngiokdffdaaW.PrintWords Go.Proofs.YtmokngiokdffdaaW.PrintLast Go.Proofs.YtmokngiokdffdaaW.PrintMore
set_option linter.unusedVariables false

/-- The digest's bytes as numbers. -/
def dig (bs : List Int) : List Int := (Sh.sum bs).map fun x => ((x : Nat) : Int)
theorem dig_length (bs : List Int) : (dig bs).length = 32 := by rw [dig, List.length_map, Sh.sum_length]

theorem reads_blk {w : World} {g t : Nat} {l : List Int} (h : w.heap[g]? = some (.cells (nums .u8 l).toArray t (0, 0))) (hm : l.length ≤ 9223372036854775807) : ReadsInt w .u8 (some ⟨g, 0, none⟩) l.length l := by
  refine ⟨rfl, hm, fun hp => ⟨_, rfl, fun j hj => ?_⟩⟩
  rw [add_plain]
  exact nums_cell h j hj
def zeros8 : Array Value := (nums .u8 (List.replicate 8 0)).toArray
def zerosU8 : List Int := List.replicate 32 0

/-- One byte, out of a literal. -/
theorem write_one (g : Nat) (bs : List Int) (x : Int) (hx : 0 ≤ x ∧ x < 256) (W : World) (hS : Str W g bs) (hlen : bs.length + 1 < 1099511627776) :
    Calls Try.prog 34 #[.pointer (some ⟨g, 0, none⟩), .slice (some ⟨W.heap.size, 0, none⟩) 1 1] (W.alloc (.cells #[.int .u8 x] 5)) fun e w' => e = .returned (.tuple #[]) ∧ Str w' g (bs ++ [x]) ∧ W.grownBy w' (some g) := by
  have hb : Below W.heap.size W (W.alloc (.cells #[.int .u8 x] 5)) := below_alloc (Below.refl _ _) _
  refine (write_any g bs [x] (some ⟨W.heap.size, 0, none⟩) 1 _ (hS.below hb) (reads_blk (l := [x]) (blk_new W _) (show 1 ≤ 9223372036854775807 by decide)) (Nat.le_refl _) (fun a ha _ => ?_) (fun y hy => by rw [List.mem_singleton.1 hy]; exact hx) hlen).mono ?_
  · cases ha
    exact fun e => absurd hS.lt (by rw [← e]; exact Nat.lt_irrefl _)
  · rintro e w' ⟨h1, h2, h3⟩
    exact ⟨h1, h2, kg_trans (kg_below hb) h3⟩
section
variable {P : Program} {ops : Array Oper} {rest : List Oper} {o : Oper} {a : Act} {Q : Exit → Act → World → Prop} {W : World}
/-- A new row of zeroes, as a slice. -/
theorem make_ev (cs : Array Value) (t T : TypeId) (x y : Operand) (n : Nat) (hgd : o.guard = none) (ho : o.op = .makeSlice T x y)
    (hrun : (execOp a.eval o).run P W = .ok (.value (.slice (some ⟨W.heap.size, 0, none⟩) n n)) (W.alloc (.cells cs t (0, 0))))
    (h : ∀ w1, Aside0 (w1.heap[W.heap.size]? = some (.cells cs t (0, 0))) → Aside0 (Below W.heap.size W w1) → Aside0 (w1.heap.size = W.heap.size + 1) → wpList P ops Q rest (a.put o.dst (.slice (some ⟨W.heap.size, 0, none⟩) n n)) w1) : wpList P ops Q (o :: rest) a W :=
  Kd.event_run hgd hrun (h _ ⟨blk_new W _⟩ ⟨below_alloc (Below.refl _ _) _⟩ ⟨by simp⟩)
end
theorem nums_set (k : IntKind) (L : List Int) (i : Nat) (x : Int) : (nums k L).toArray.setIfInBounds i (.int k x) = (nums k (L.set i x)).toArray := by
  simp [nums, List.map_set]
/-- One more byte of the length. -/
theorem be8_get (n i : Nat) (h : i < (Sh.be8 n).length) : (Sh.be8 n)[i] = ((n / 256 ^ (7 - i) % 256 : Nat) : Int) := by
  simp only [Sh.be8, List.getElem_map, List.getElem_range]
theorem be8_step (n i m : Nat) (hi : i < 8) (hm : 8 - i = m + 1) : ((Sh.be8 n).take i ++ List.replicate (8 - i) 0).set i ((n / 256 ^ (7 - i) % 256 : Nat) : Int) = (Sh.be8 n).take (i + 1) ++ List.replicate m 0 := by
  have hl : ((Sh.be8 n).take i).length = i := by rw [List.length_take, Sh.be8_length]; omega
  rw [List.set_append, if_neg (by omega), hl, Nat.sub_self, hm, List.replicate_succ, List.set_cons_zero, List.take_succ_eq_append_getElem (by rw [Sh.be8_length]; omega), be8_get, List.append_assoc]
  rfl
theorem len_byte (n i : Nat) (hi : i < 8) : ((8 : Int) * (n : Int)) / 2 ^ (56 - 8 * i) % 256 = ((8 * n / 256 ^ (7 - i) % 256 : Nat) : Int) := by
  have e : 56 - 8 * i = 8 * (7 - i) := by omega
  have e2 : (256 : Nat) ^ (7 - i) = 2 ^ (8 * (7 - i)) := by rw [Nat.pow_mul]
  have e3 : ((2 : Int) ^ (8 * (7 - i))) = (((2 : Nat) ^ (8 * (7 - i)) : Nat) : Int) := by simp
  rw [e, e2, e3]
  generalize (2 : Nat) ^ (8 * (7 - i)) = p
  have e4 : ((8 : Int) * (n : Int)) = ((8 * n : Nat) : Int) := by omega
  rw [e4]
  generalize 8 * n = q
  rw [← Int.natCast_ediv]
  generalize q / p = r
  omega
theorem write_8 (g : Nat) (bs l : List Int) (k : Nat) (w : World) (hS : Str w g bs) (hl : l.length = 8) (hb : w.heap[k]? = some (.cells (nums .u8 l).toArray 5 (0, 0))) (hk : k ≠ g) (hby : ∀ x ∈ l, 0 ≤ x ∧ x < 256) (hlen : bs.length + 8 < 1099511627776) :
    Calls Try.prog 34 #[.pointer (some ⟨g, 0, none⟩), .slice (some ⟨k, 0, none⟩) 8 8] w fun e w' => e = .returned (.tuple #[]) ∧ Str w' g (bs ++ l) ∧ w.grownBy w' (some g) := by
  have h := write_any g bs l (some ⟨k, 0, none⟩) 8 w hS (reads_blk hb (by omega)) (by omega) (fun a ha _ => by cases ha; exact hk) hby (by omega)
  rw [hl] at h
  exact h
theorem be8_byte (n : Nat) : ∀ x ∈ Sh.be8 n, 0 ≤ x ∧ x < 256 := by
  intro x hx
  obtain ⟨i, _, rfl⟩ := List.mem_map.1 hx
  omega
theorem dig_get (bs : List Int) (k : Nat) (h : k < (dig bs).length) : (dig bs)[k] = ((Sh.outByte (Sh.blocks (Sh.pad bs) ((Sh.pad bs).length / 64)) k : Nat) : Int) := by
  simp only [dig, Sh.sum, Sh.out, List.getElem_map, List.getElem_range]
theorem dig_step (bs : List Int) (k m : Nat) (hk : k < 32) (hm : 32 - k = m + 1) : ((dig bs).take k ++ List.replicate (32 - k) 0).set k ((Sh.outByte (Sh.blocks (Sh.pad bs) ((Sh.pad bs).length / 64)) k : Nat) : Int) = (dig bs).take (k + 1) ++ List.replicate m 0 := by
  have hl : ((dig bs).take k).length = k := by rw [List.length_take, dig_length]; omega
  rw [List.set_append, if_neg (by omega), hl, Nat.sub_self, hm, List.replicate_succ, List.set_cons_zero, List.take_succ_eq_append_getElem (by rw [dig_length]; omega), dig_get, List.append_assoc]
  rfl
theorem out_val (s : Sh.St) (x k : Nat) (h : s.list.getD (k / 4) 0 = x) : (x : Int) / 2 ^ (24 - 8 * (k % 4)) % 256 = ((Sh.outByte s k : Nat) : Int) := by
  unfold Sh.outByte
  rw [h]
  have e3 : ((2 : Int) ^ (24 - 8 * (k % 4))) = (((2 : Nat) ^ (24 - 8 * (k % 4)) : Nat) : Int) := by simp
  rw [e3]
  generalize (2 : Nat) ^ (24 - 8 * (k % 4)) = p
  rw [← Int.natCast_ediv]
  generalize x / p = q
  omega
theorem size29 {L : List Int} (h : L.length = 32) : (Try.prog.info? 29).map (·.size) = some (nums .u8 L).toArray.size := by
  rw [List.size_toArray, nums_length, h]; kernel_rfl
/-- A write into a block of the call's own counts for nothing. -/
theorem own_kg {g k : Nat} {w a b : World} (h : w.grownBy a (some g)) (h2 : a.grownBy b (some k)) (hk : w.heap.size ≤ k) : w.grownBy b (some g) :=
  ⟨h2.os.trans h.os, h2.tape.trans h.tape, h2.output.trans h.output, Nat.le_trans h.size h2.size, fun i hi hn => (h2.block i (Nat.lt_of_lt_of_le hi h.size) (by simp; omega)).trans (h.block i hi hn)⟩
def padTo (bs : List Int) (z : Nat) : List Int := bs ++ 128 :: List.replicate z 0
theorem padTo_length (bs : List Int) (z : Nat) : (padTo bs z).length = bs.length + 1 + z := by
  unfold padTo; rw [List.length_append, List.length_cons, List.length_replicate]; omega
theorem padTo_step (bs : List Int) (z : Nat) : padTo bs z ++ [0] = padTo bs (z + 1) := by
  unfold padTo; rw [List.append_assoc, List.cons_append, List.replicate_succ']

set_option maxRecDepth 100000 in
set_option maxHeartbeats 2000000 in
theorem end_any (g : Nat) (bs : List Int) (w : World) (hS : Str w g bs) (hby : ∀ x ∈ bs, 0 ≤ x ∧ x < 256) (hlen : bs.length < 1000000000) :
    Calls Try.prog 35 #[.pointer (some ⟨g, 0, none⟩)] w fun e w' => e = .returned (.agg (nums .u8 (dig bs)).toArray) ∧ w.grownBy w' (some g) := by
  have HBY := Aside0.mk hby
  obtain ⟨N, hN⟩ : ∃ N, bs.length = N := ⟨_, rfl⟩
  obtain ⟨wait, hw1, hw2, hw3, hw4⟩ := hS.blk
  have q1 := strm_n hw1 hw3
  rw [hN] at q1 hlen
  have HS0 := Aside0.mk hS
  have HN := Aside0.mk hN
  have HG := Aside0.mk hS.lt
  have hNI : (N : Int) < 1000000000 := by omega
  clear hby hS hN hw1 hw2 hw3 hw4
  go_enter Try.func35, Try.ntmps35
  go_wp2_with (first
    | (refine alloc_ev (nums .u8 zerosU8).toArray 29 rfl rfl (by kernel_rfl) ?_; intro w1 BK1 HB1 HS1; have q2 := pw_cell_below HB1.out q1)
    | (go_at_call 34; (with_reducible refine (write_one g bs 128 (by decide) _ (HS0.out.below HB1.out) (by have := HN.out; omega)).mono ?_); rintro e w2 ⟨rfl, hs2, hk2⟩; have HS2 := Aside0.mk hs2; have HK2 := Aside0.mk hk2; clear hs2 hk2))
  clear q1 q2
  have HKW := Aside0.mk (kg_trans (kg_below (g := g) HB1.out) HK2.out)
  have HD0 : Aside0 (w2.heap[w.heap.size]? = some (.cells (nums .u8 zerosU8).toArray 29 (0, 0))) := ⟨kg_blk HK2.out BK1.out (by have := HG.out; omega)⟩
  have HS3 : Aside0 (Str w2 g (padTo bs 0)) := ⟨HS2.out⟩
  clear HS2 HK2
  go_loopg [15] (Sh.zeros N) (fun gk v15 wr => ∃ z, Aside0 (gk + z = Sh.zeros N) ∧ Aside0 (Str wr g (padTo bs z)) ∧ Aside0 (w.grownBy wr (some g)) ∧ Aside0 (wr.heap[w.heap.size]? = some (.cells (nums .u8 zerosU8).toArray 29 (0, 0))))
  case atStart => exact ⟨0, ⟨rfl⟩, HS3, HKW, HD0⟩
  case round =>
    clear HS3 HKW HD0
    obtain ⟨z, HZ, HS3, HKW, HD0⟩ := hrel
    obtain ⟨wait3, hw1, hw2, hw3, hw4⟩ := HS3.out.blk
    have q3 := strm_n hw1 hw3
    clear hw1 hw2 hw3 hw4
    rw [padTo_length, HN.out] at q3
    obtain ⟨M, hM⟩ : ∃ M, N + 1 + z = M := ⟨_, rfl⟩
    rw [hM] at q3
    have HM := Aside0.mk hM
    have hZ := HZ.out
    unfold Sh.zeros at hZ
    by_cases hg : gk = 0
    · have hm : M % 64 = 56 := by omega
      have r1 : Int.tmod (M : Int) 64 = 56 := by rw [Int.tmod_eq_emod_of_nonneg (by omega)]; omega
      have r2 : (M : Int) % 64 = 56 := by omega
      clear hM hZ hm
      have HGK := Aside0.mk hg
      clear hg
      have HS4 : Aside0 (Str wr g (padTo bs (Sh.zeros N))) := ⟨by have h := HZ.out; rw [HGK.out, Nat.zero_add] at h; rw [← h]; exact HS3.out⟩
      clear HS3 HZ
      obtain ⟨wo, rfl⟩ : ∃ wo : World, wo = wr := ⟨_, rfl⟩
      go_wp2_with (refine make_ev zeros8 5 53 _ _ 8 rfl rfl (by kernel_rfl) ?_; intro w4 BK4 HB4 HSZ4)
      have HBK4 : Aside0 (w4.heap[wo.heap.size]? = some (.cells (nums .u8 ((Sh.be8 (8 * N)).take 0 ++ List.replicate (8 - 0) 0)).toArray 5 (0, 0))) := ⟨by rw [List.take_zero, List.nil_append]; exact BK4.out⟩
      have HS5 := Aside0.mk (HS4.out.below HB4.out)
      have HKW2 := Aside0.mk (kg_trans HKW.out (kg_below HB4.out))
      have HKWO := HKW
      have HD1 := Aside0.mk (blk_grown HD0.out (grown_of_below HB4.out none) (by simp))
      have HGW : Aside0 (wo.heap.size ≠ g ∧ wo.heap.size ≠ w.heap.size) := ⟨by have h1 := HS4.out.lt; have h2 := blk_lt HD0.out; omega⟩
      clear HS4 HKW HD0
      go_loopw [27] (fun v27 wr => ∃ i : Nat, v27 = .int .i64 i ∧ Aside0 (i ≤ 8) ∧ Aside0 (wr.heap[wo.heap.size]? = some (.cells (nums .u8 ((Sh.be8 (8 * N)).take i ++ List.replicate (8 - i) 0)).toArray 5 (0, 0))) ∧ Aside0 (w4.grownBy wr (some wo.heap.size))) (fun v27 _ => 8 - (intOf v27).toNat)
      case atStart => exact ⟨0, rfl, ⟨by omega⟩, HBK4, ⟨kg_refl _ _⟩⟩
      case round =>
        clear BK4 HBK4
        obtain ⟨i, rfl, HI, BK4, HKL⟩ := hrel
        by_cases hi : i < 8
        · have c1 : decide ((i : Int) < 8) = true := decide_eq_true (by omega)
          have hlen8 : ((Sh.be8 (8 * N)).take i ++ List.replicate (8 - i) 0).length = 8 := by rw [List.length_append, List.length_take, Sh.be8_length, List.length_replicate]; omega
          have p1 := nums_cell BK4.out i (by omega)
          have p2 : wr.frozen? ⟨wo.heap.size, i, none⟩ = false := blk_frozen BK4.out i
          have m1 : (i : Int) < 8 := by omega
          clear hlen8
          go_wp2_with fail
          go_roundw
          case rel =>
            refine ⟨i + 1, by go_num, ⟨by omega⟩, ⟨?_⟩, ⟨kg_trans HKL.out (kg_set _ _ _)⟩⟩
            have h1 := blk_set BK4.out i (.int .u8 ((8 * N / 256 ^ (7 - i) % 256 : Nat) : Int))
            rw [nums_set, be8_step (8 * N) i (8 - (i + 1)) hi (by omega)] at h1
            rw [len_byte N i hi]
            exact h1
          case measure => simp [intOf]; omega
        · have c1 : decide ((i : Int) < 8) = false := decide_eq_false (by omega)
          have hi8 : i = 8 := by have := HI.out; omega
          have HB8 : Aside0 (wr.heap[wo.heap.size]? = some (.cells (nums .u8 (Sh.be8 (8 * N))).toArray 5 (0, 0))) := ⟨by
            have h := BK4.out
            rw [hi8, Nat.sub_self, List.replicate_zero, List.append_nil, List.take_of_length_le (by rw [Sh.be8_length]; decide)] at h
            exact h⟩
          have HS6 : Aside0 (Str wr g (padTo bs (Sh.zeros N))) := ⟨HS5.out.keep (HKL.out.block g HS5.out.lt (by have := HGW.out.1; simp; omega))⟩
          have HD2 : Aside0 (wr.heap[w.heap.size]? = some (.cells (nums .u8 zerosU8).toArray 29 (0, 0))) := ⟨kg_blk HKL.out HD1.out (by have := HGW.out.2; omega)⟩
          have HKW3 : Aside0 (w.grownBy wr (some g)) := ⟨own_kg HKW2.out HKL.out (by have := HKWO.out.size; omega)⟩
          clear BK4 hi8 HS5 HD1 HKW2 HKL
          have hpl : (padTo bs (Sh.zeros N)).length + 8 < 1099511627776 := by
            have h1 : Sh.zeros N < 64 := Nat.mod_lt _ (by decide)
            rw [padTo_length, HN.out]; omega
          have HPL := Aside0.mk hpl
          clear hpl
          go_wp2_with (go_at_call 34; (with_reducible refine (write_8 g (padTo bs (Sh.zeros N)) (Sh.be8 (8 * N)) wo.heap.size _ HS6.out (Sh.be8_length _) HB8.out HGW.out.1 (be8_byte _) HPL.out).mono ?_); rintro e w6 ⟨rfl, hs7, hk7⟩; have HS7 := Aside0.mk hs7; have HK7 := Aside0.mk hk7; clear hs7 hk7)
          have HE : Aside0 (padTo bs (Sh.zeros N) ++ Sh.be8 (8 * N) = Sh.pad bs) := ⟨by unfold padTo Sh.pad; rw [HN.out, List.append_assoc, List.cons_append]⟩
          have HS8 : Aside0 (Str w6 g (Sh.pad bs)) := ⟨by have h := HS7.out; rw [HE.out] at h; exact h⟩
          have HD3 : Aside0 (w6.heap[w.heap.size]? = some (.cells (nums .u8 zerosU8).toArray 29 (0, 0))) := ⟨kg_blk HK7.out HD2.out (by have := HG.out; omega)⟩
          have HKW4 := Aside0.mk (kg_trans HKW3.out HK7.out)
          clear HS7 HK7 HD2 HKW3 HS6 HB8
          obtain ⟨wait7, hw1, hw2, hw3, hw4⟩ := HS8.out.blk
          have HW3 := Aside0.mk hw3
          clear hw1 hw2 hw3 hw4 HS8
          have HDD : Aside0 (w6.heap[w.heap.size]? = some (.cells (nums .u8 ((dig bs).take 0 ++ List.replicate (32 - 0) 0)).toArray 29 (0, 0))) := ⟨by rw [List.take_zero, List.nil_append]; exact HD3.out⟩
          have HGD : Aside0 (w.heap.size ≠ g) := ⟨by have := HG.out; omega⟩
          clear HD3
          go_loopw [43] (fun v43 wr => ∃ k : Nat, v43 = .int .i64 k ∧ Aside0 (k ≤ 32) ∧ Aside0 (wr.heap[w.heap.size]? = some (.cells (nums .u8 ((dig bs).take k ++ List.replicate (32 - k) 0)).toArray 29 (0, 0))) ∧ Aside0 (w6.grownBy wr (some w.heap.size))) (fun v43 _ => 32 - (intOf v43).toNat)
          case atStart => exact ⟨0, rfl, ⟨by omega⟩, HDD, ⟨kg_refl _ _⟩⟩
          case round =>
            clear HDD
            obtain ⟨k, rfl, HK, HDD, HKL⟩ := hrel
            have HW4 := Aside0.mk (kg_blk HKL.out HW3.out (Ne.symm HGD.out))
            by_cases hk : k < 32
            · have c2 : decide ((k : Int) < 32) = true := decide_eq_true (by omega)
              have p0 := strm_word HW4.out (k / 4) (by omega)
              obtain ⟨x, hx⟩ : ∃ x, (Sh.blocks (Sh.pad bs) ((Sh.pad bs).length / 64)).list.getD (k / 4) 0 = x := ⟨_, rfl⟩
              rw [hx] at p0
              have HX := Aside0.mk hx
              have hlen32 : ((dig bs).take k ++ List.replicate (32 - k) 0).length = 32 := by rw [List.length_append, List.length_take, dig_length, List.length_replicate]; omega
              have p1 := nums_cell HDD.out k (by omega)
              have p2 : wr.frozen? ⟨w.heap.size, k, none⟩ = false := blk_frozen HDD.out k
              have m1 : (k : Int) < 32 := by omega
              clear hlen32 hx
              go_wp2_with fail
              go_roundw
              case rel =>
                refine ⟨k + 1, by go_num, ⟨by omega⟩, ⟨?_⟩, ⟨kg_trans HKL.out (kg_set _ _ _)⟩⟩
                have h1 := blk_set HDD.out k (.int .u8 ((Sh.outByte (Sh.blocks (Sh.pad bs) ((Sh.pad bs).length / 64)) k : Nat) : Int))
                rw [nums_set, dig_step bs k (32 - (k + 1)) hk (by omega)] at h1
                rw [out_val _ x k HX.out]
                exact h1
              case measure => simp [intOf]; omega
            · have c2 : decide ((k : Int) < 32) = false := decide_eq_false (by omega)
              have hk32 : k = 32 := by have := HK.out; omega
              have HF : Aside0 (wr.heap[w.heap.size]? = some (.cells (nums .u8 (dig bs)).toArray 29 (0, 0))) := ⟨by
                have h := HDD.out
                rw [hk32, Nat.sub_self, List.replicate_zero, List.append_nil, List.take_of_length_le (by rw [dig_length]; decide)] at h
                exact h⟩
              have HKW5 : Aside0 (w.grownBy wr (some g)) := ⟨own_kg HKW4.out HKL.out (Nat.le_refl _)⟩
              clear HDD hk32
              go_wp2_with (first
                | (refine wpList_load_row rfl 29 _ rfl w.heap.size rfl 29 _ (0, 0) _ HF.out Try.underlying29 rfl (size29 (dig_length bs)) ?_)
                | (refine store_ev w.heap.size (nums .u8 (dig bs)).toArray (nums .u8 (dig bs)).toArray 29 29 _ _ rfl rfl rfl rfl HF.out (size29 (dig_length bs)) rfl (nums_one _ _) ?_; intro w8 BK8 HK8))
              refine bodyPost_ret (results_cell_row rfl _ _ w.heap.size 29 (nums .u8 (dig bs)).toArray (0, 0) _ rfl BK8.out Try.underlying29 rfl (size29 (dig_length bs))) rfl ?_
              exact ⟨rfl, own_kg HKW5.out HK8.out (Nat.le_refl _)⟩
    · obtain ⟨r, hr⟩ : ∃ r, M % 64 = r := ⟨_, rfl⟩
      have hr56 : r ≠ 56 := by omega
      have r1 : Int.tmod (M : Int) 64 = (r : Int) := by rw [Int.tmod_eq_emod_of_nonneg (by omega)]; omega
      have r2 : (M : Int) % 64 = (r : Int) := by omega
      have r3 : ((r : Int) != 56) = true := by rw [bne_iff_ne]; omega
      have r4 : ((r : Int) = 56) = False := eq_false (by omega)
      have hz64 : z < 64 := by omega
      clear hM hZ hr
      have HGK := Aside0.mk hg
      clear hg
      go_wp2_with (go_at_call 34; (with_reducible refine (write_one g (padTo bs z) 0 (by decide) _ HS3.out (by rw [padTo_length, HN.out]; omega)).mono ?_); rintro e w3 ⟨rfl, hs4, hk4⟩; have HS4 := Aside0.mk hs4; have HK4 := Aside0.mk hk4; clear hs4 hk4)
      go_roundg (gk - 1)
      case measure => have := HGK.out; omega
      case rel => exact ⟨z + 1, ⟨by have := HZ.out; have := HGK.out; omega⟩, ⟨by rw [← padTo_step]; exact HS4.out⟩, ⟨kg_trans HKW.out HK4.out⟩, ⟨kg_blk HK4.out HD0.out (by have := HG.out; omega)⟩⟩
end Go.Proofs.Ytmokngiokdffdaa.P
