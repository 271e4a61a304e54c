/-
  digest.words: the words of a block.
-/
import Derived.Test.YtmokngiokdffdaaDc
import Derived.Deep.RegionHeld3
import Derived.StillTailTactics
import Derived.IntWalk
namespace Go.Proofs.Ytmokngiokdffdaa.P
open Go.RowKit Go.Proofs.YtmokngiokdffdaaW.PrintWords Go.Proofs.YtmokngiokdffdaaW.PrintLast Go.Proofs.YtmokngiokdffdaaW.PrintMore
set_option linter.unusedVariables false
theorem or_add (a b i : Nat) (h : b < 2 ^ i) : a * 2 ^ i ||| b = a * 2 ^ i + b := by
  rw [Nat.mul_comm, ← Nat.two_pow_add_eq_or_of_lt h]
theorem word_val (b0 b1 b2 b3 : Nat) (h0 : b0 < 256) (h1 : b1 < 256) (h2 : b2 < 256) (h3 : b3 < 256) :
    bits .or .u32 (bits .or .u32 (bits .or .u32 (IntKind.u32.wrap ((b0 : Int) * 16777216)) (IntKind.u32.wrap ((b1 : Int) * 65536))) (IntKind.u32.wrap ((b2 : Int) * 256))) (b3 : Int) = ((b0 * 16777216 + b1 * 65536 + b2 * 256 + b3 : Nat) : Int) := by
  have e0 : IntKind.u32.wrap ((b0 : Int) * 16777216) = ((b0 * 16777216 : Nat) : Int) := by rw [IntKind.wrap_u32']; omega
  have e1 : IntKind.u32.wrap ((b1 : Int) * 65536) = ((b1 * 65536 : Nat) : Int) := by rw [IntKind.wrap_u32']; omega
  have e2 : IntKind.u32.wrap ((b2 : Int) * 256) = ((b2 * 256 : Nat) : Int) := by rw [IntKind.wrap_u32']; omega
  rw [e0, e1, e2, u32_or_nat _ _ (by omega) (by omega)]
  have o1 := or_add b0 (b1 * 65536) 24 (by omega)
  rw [show (2 : Nat) ^ 24 = 16777216 by decide] at o1
  rw [o1, u32_or_nat _ _ (by omega) (by omega)]
  have o2 := or_add (b0 * 256 + b1) (b2 * 256) 16 (by omega)
  rw [show (2 : Nat) ^ 16 = 65536 by decide, show (b0 * 256 + b1) * 65536 = b0 * 16777216 + b1 * 65536 by omega] at o2
  rw [o2, u32_or_nat _ _ (by omega) (by omega)]
  have o3 := or_add (b0 * 65536 + b1 * 256 + b2) b3 8 (by omega)
  rw [show (2 : Nat) ^ 8 = 256 by decide, show (b0 * 65536 + b1 * 256 + b2) * 256 = b0 * 16777216 + b1 * 65536 + b2 * 256 by omega] at o3
  rw [o3]
theorem set_ne {w : World} {g i j : Nat} {v : Value} (h : j ≠ i) : (w.setCell ⟨g, i, none⟩ v).cell? ⟨g, j, none⟩ = w.cell? ⟨g, j, none⟩ := by
  exact World.cell?_setCell_other _ _ _ _ (fun e => by injection e with _ e2 _; exact h e2.symm)
/-- One more of the first words. -/
theorem firstW_step (blk : List Int) (k n : Nat) (hk : k < 16) : ((Sh.firstW blk).take k ++ List.replicate (n + 1) 0).set k (Sh.wordAt blk k) = (Sh.firstW blk).take (k + 1) ++ List.replicate n 0 := by
  have hl : ((Sh.firstW blk).take k).length = k := by rw [List.length_take, Sh.firstW_length]; omega
  rw [List.set_append, if_neg (by omega), hl, Nat.sub_self, List.replicate_succ, List.set_cons_zero, List.take_succ_eq_append_getElem (by rw [Sh.firstW_length]; omega)]
  simp [Sh.firstW]

theorem next_step (blk : List Int) (n t m : Nat) (ht : t = 16 + n) (hm : 48 - n = m + 1) : (Sh.wordsTo blk n ++ List.replicate (48 - n) 0).set t (Sh.nextW (Sh.wordsTo blk n) t) = Sh.wordsTo blk (n + 1) ++ List.replicate m 0 := by
  subst ht
  rw [List.set_append, if_neg (by rw [Sh.wordsTo_length]; omega), Sh.wordsTo_length, Nat.sub_self, hm, List.replicate_succ, List.set_cons_zero, Sh.wordsTo, List.append_assoc]
  rfl

set_option maxRecDepth 100000 in
set_option maxHeartbeats 2000000 in
theorem words_any (blk : List Int) (hlen : blk.length = 64) (hb : ∀ x ∈ blk, 0 ≤ x ∧ x < 256) (w : World) :
    Calls Try.prog 41 #[.agg (nums .u8 blk).toArray] w fun e w' => e = .returned (.agg (wv (Sh.wordsOf blk)).toArray) ∧ Below w.heap.size w w' := by
  have HL := Aside0.mk hlen
  have HBY := Aside0.mk hb
  clear hlen hb
  go_enter Try.func41, Try.ntmps41
  go_wp2_with (first
    | (refine box_ev (nums .u8 blk).toArray 82 _ rfl rfl rfl ?_; intro w1 BK1 HB1 HS1)
    | (refine alloc_ev zerosU32 77 rfl rfl (by kernel_rfl) ?_; intro w2 BK2 HB2 HS2))
  have HB := Aside0.mk (below_then HB1.out HB1.out.size HB2.out)
  have HBK1 := Aside0.mk (blk_grown BK1.out (grown_of_below HB2.out none) (by simp))
  have HZ : Aside0 (w2.heap[w1.heap.size]? = some (.cells (wv ((Sh.firstW blk).take 0 ++ List.replicate (64 - 0) 0)).toArray 77 (0, 0))) := ⟨BK2.out⟩
  have HN := Aside0.mk (show w1.heap.size ≠ w.heap.size by have := HS1.out; omega)
  clear BK1 BK2 HB1 HB2
  go_loopw [6] (fun v6 wr => ∃ k : Nat, v6 = .int .i64 k ∧ Aside0 (k ≤ 16) ∧ Aside0 (wr.heap[w.heap.size]? = some (.cells (nums .u8 blk).toArray 82 (0, 0))) ∧ Aside0 (wr.heap[w1.heap.size]? = some (.cells (wv ((Sh.firstW blk).take k ++ List.replicate (64 - k) 0)).toArray 77 (0, 0))) ∧ Aside0 (Below w.heap.size w wr)) (fun v6 _ => 16 - (intOf v6).toNat)
  case atStart => exact ⟨0, rfl, ⟨by omega⟩, HBK1, HZ, HB⟩
  case round =>
    clear HB HBK1 HZ
    obtain ⟨k, rfl, HK, HA, HW, HB⟩ := hrel
    by_cases hk : k < 16
    · have c0 : decide ((k : Int) < 16) = true := decide_eq_true (by omega)
      have hbyte : ∀ i, i < 64 → ∃ b : Nat, b < 256 ∧ blk.getD i 0 = (b : Int) := fun i hi => by
        have h1 := HBY.out (blk.getD i 0) (by rw [List.getD_eq_getElem?_getD, List.getElem?_eq_getElem (by rw [HL.out]; exact hi)]; exact List.getElem_mem _)
        exact ⟨(blk.getD i 0).toNat, by omega, by omega⟩
      obtain ⟨b0, hb0, e0⟩ := hbyte (4 * k) (by omega)
      obtain ⟨b1, hb1, e1⟩ := hbyte (4 * k + 1) (by omega)
      obtain ⟨b2, hb2, e2⟩ := hbyte (4 * k + 2) (by omega)
      obtain ⟨b3, hb3, e3⟩ := hbyte (4 * k + 3) (by omega)
      have q0 := nums_cell HA.out (4 * k) (by rw [HL.out]; omega)
      have q1 := nums_cell HA.out (4 * k + 1) (by rw [HL.out]; omega)
      have q2 := nums_cell HA.out (4 * k + 2) (by rw [HL.out]; omega)
      have q3 := nums_cell HA.out (4 * k + 3) (by rw [HL.out]; omega)
      rw [e0] at q0; rw [e1] at q1; rw [e2] at q2; rw [e3] at q3
      have E0 := Aside0.mk e0; have E1 := Aside0.mk e1; have E2 := Aside0.mk e2; have E3 := Aside0.mk e3
      clear e0 e1 e2 e3 hbyte
      have qd : ∃ v, wr.cell? ⟨w1.heap.size, k, none⟩ = some v := ⟨_, wv_cell HW.out k (by simp [Sh.firstW_length]; omega)⟩
      obtain ⟨vd, qd⟩ := qd
      have qf : wr.frozen? ⟨w1.heap.size, k, none⟩ = false := blk_frozen HW.out k
      have s0 : IntKind.i64.wrap (4 * (k : Int)) = 4 * (k : Int) := IntWalk.i64_in _ (by omega)
      have s1 : IntKind.i64.wrap (4 * (k : Int) + 1) = 4 * (k : Int) + 1 := IntWalk.i64_in _ (by omega)
      have s2 : IntKind.i64.wrap (4 * (k : Int) + 2) = 4 * (k : Int) + 2 := IntWalk.i64_in _ (by omega)
      have s3 : IntKind.i64.wrap (4 * (k : Int) + 3) = 4 * (k : Int) + 3 := IntWalk.i64_in _ (by omega)
      have t0 : (4 * (k : Int)).toNat = 4 * k := by omega
      have t1 : (4 * (k : Int) + 1).toNat = 4 * k + 1 := by omega
      have t2 : (4 * (k : Int) + 2).toNat = 4 * k + 2 := by omega
      have t3 : (4 * (k : Int) + 3).toNat = 4 * k + 3 := by omega
      have n0 : 0 ≤ 4 * (k : Int) := by omega
      have n1 : 0 ≤ 4 * (k : Int) + 1 := by omega
      have n2 : 0 ≤ 4 * (k : Int) + 2 := by omega
      have n3 : 0 ≤ 4 * (k : Int) + 3 := by omega
      have m0 : 4 * (k : Int) < 64 := by omega
      have m1 : 4 * (k : Int) + 1 < 64 := by omega
      have m2 : 4 * (k : Int) + 2 < 64 := by omega
      have m3 : 4 * (k : Int) + 3 < 64 := by omega
      have m4 : (k : Int) < 64 := by omega
      have v0 : IntKind.u32.wrap (b0 : Int) = b0 := by rw [IntKind.wrap_u32']; omega
      have v1 : IntKind.u32.wrap (b1 : Int) = b1 := by rw [IntKind.wrap_u32']; omega
      have v2 : IntKind.u32.wrap (b2 : Int) = b2 := by rw [IntKind.wrap_u32']; omega
      have v3 : IntKind.u32.wrap (b3 : Int) = b3 := by rw [IntKind.wrap_u32']; omega
      go_wp2_with fail
      go_still_tail 31, (by kernel_rfl)
      have e1 : b0 * 16777216 + b1 * 65536 + b2 * 256 + b3 = Sh.wordAt blk k := by
        unfold Sh.wordAt Sh.byteAt
        rw [E0.out, E1.out, E2.out, E3.out]
        simp
      rw [word_val b0 b1 b2 b3 hb0 hb1 hb2 hb3, e1]
      clear e1
      change wpList _ _ _ _ _ wr.drew
      have HA1 : Aside0 (wr.drew.heap[w.heap.size]? = some (.cells (nums .u8 blk).toArray 82 (0, 0))) := ⟨HA.out⟩
      have HW1 : Aside0 (wr.drew.heap[w1.heap.size]? = some (.cells (wv ((Sh.firstW blk).take k ++ List.replicate (64 - k) 0)).toArray 77 (0, 0))) := ⟨HW.out⟩
      have HB1 := Aside0.mk (below_drew HB.out)
      have qd1 : wr.drew.cell? ⟨w1.heap.size, k, none⟩ = some vd := qd
      have qf1 : wr.drew.frozen? ⟨w1.heap.size, k, none⟩ = false := qf
      clear s0 s1 s2 s3 t0 t1 t2 t3 v0 v1 v2 v3 q0 q1 q2 q3 qd qf HA HW HB
      generalize wr.drew = w3 at *
      go_wp2
      go_roundw
      case rel =>
        have hk2 := HK.out
        refine ⟨k + 1, by go_num, ⟨by omega⟩, ⟨?_⟩, ⟨?_⟩, ⟨?_⟩⟩
        · exact blk_far HA1.out (Ne.symm HN.out) _
        · have h1 := blk_set HW1.out k (.int .u32 ((Sh.wordAt blk k : Nat) : Int))
          rw [wv_set, show 64 - k = (64 - (k + 1)) + 1 by omega, firstW_step blk k _ hk] at h1
          exact h1
        · exact HB1.out.setCell (show w.heap.size ≤ w1.heap.size by have := HS1.out; omega) _
      case measure => simp [intOf]; omega
    · have c0 : decide ((k : Int) < 16) = false := decide_eq_false (by omega)
      have hk16 : k = 16 := by have := HK.out; omega
      have HT : Aside0 (wr.heap[w1.heap.size]? = some (.cells (wv (Sh.wordsTo blk 0 ++ List.replicate (48 - 0) 0)).toArray 77 (0, 0))) := ⟨by have h := HW.out; rw [hk16, List.take_of_length_le (by rw [Sh.firstW_length]; omega)] at h; exact h⟩
      clear HW HA hk16
      go_wp2
      go_loopw [5] (fun v5 wr => ∃ t n : Nat, v5 = .int .i64 t ∧ Aside0 (t = 16 + n ∧ n ≤ 48) ∧ Aside0 (wr.heap[w1.heap.size]? = some (.cells (wv (Sh.wordsTo blk n ++ List.replicate (48 - n) 0)).toArray 77 (0, 0))) ∧ Aside0 (Below w.heap.size w wr)) (fun v5 _ => 64 - (intOf v5).toNat)
      case atStart => exact ⟨16, 0, rfl, ⟨rfl, by omega⟩, HT, HB⟩
      case round =>
        clear HB HT
        obtain ⟨t, n, rfl, HN2, HT, HB⟩ := hrel
        by_cases ht : t < 64
        · have c1 : decide ((t : Int) < 64) = true := decide_eq_true (by omega)
          have h16 : 16 ≤ t := by have := HN2.out; omega
          have hlen : (Sh.wordsTo blk n ++ List.replicate (48 - n) 0).length = 64 := by rw [List.length_append, Sh.wordsTo_length, List.length_replicate]; have := HN2.out; omega
          have hget : ∀ i, i < t → (Sh.wordsTo blk n ++ List.replicate (48 - n) 0).getD i 0 = (Sh.wordsTo blk n).getD i 0 := fun i hi => by
            rw [List.getD_eq_getElem?_getD, List.getD_eq_getElem?_getD, List.getElem?_append_left (by rw [Sh.wordsTo_length]; have := HN2.out; omega)]
          have hcl : ∀ i, i < t → wr.cell? ⟨w1.heap.size, i, none⟩ = some (.int .u32 (((Sh.wordsTo blk n).getD i 0 : Nat) : Int)) := fun i hi => by
            have h := wv_cell HT.out i (by omega)
            rw [hget i hi] at h; exact h
          have q1 := hcl (t - 16) (by omega)
          have q2 := hcl (t - 15) (by omega)
          have q3 := hcl (t - 7) (by omega)
          have q4 := hcl (t - 2) (by omega)
          have q5 : ∃ v, wr.cell? ⟨w1.heap.size, t, none⟩ = some v := ⟨_, wv_cell HT.out t (by omega)⟩
          obtain ⟨vd, q5⟩ := q5
          have q6 : wr.frozen? ⟨w1.heap.size, t, none⟩ = false := blk_frozen HT.out t
          have hl := fun i => Sh.getD_lt (Sh.wordsTo blk n) (Sh.wordsTo_lt blk HBY.out n) i
          obtain ⟨x1, hx1⟩ : ∃ x, (Sh.wordsTo blk n).getD (t - 16) 0 = x := ⟨_, rfl⟩
          obtain ⟨x2, hx2⟩ : ∃ x, (Sh.wordsTo blk n).getD (t - 15) 0 = x := ⟨_, rfl⟩
          obtain ⟨x3, hx3⟩ : ∃ x, (Sh.wordsTo blk n).getD (t - 7) 0 = x := ⟨_, rfl⟩
          obtain ⟨x4, hx4⟩ : ∃ x, (Sh.wordsTo blk n).getD (t - 2) 0 = x := ⟨_, rfl⟩
          rw [hx1] at q1; rw [hx2] at q2; rw [hx3] at q3; rw [hx4] at q4
          have HX2 := Aside0.mk (hx2 ▸ hl (t - 15) : x2 < 4294967296)
          have HX4 := Aside0.mk (hx4 ▸ hl (t - 2) : x4 < 4294967296)
          have HE1 := Aside0.mk hx1; have HE2 := Aside0.mk hx2; have HE3 := Aside0.mk hx3; have HE4 := Aside0.mk hx4
          clear hcl hget hl hx1 hx2 hx3 hx4 hlen
          have s1 : IntKind.i64.wrap ((t : Int) - 16) = (t : Int) - 16 := IntWalk.i64_in _ (by omega)
          have s2 : IntKind.i64.wrap ((t : Int) - 15) = (t : Int) - 15 := IntWalk.i64_in _ (by omega)
          have s3 : IntKind.i64.wrap ((t : Int) - 7) = (t : Int) - 7 := IntWalk.i64_in _ (by omega)
          have s4 : IntKind.i64.wrap ((t : Int) - 2) = (t : Int) - 2 := IntWalk.i64_in _ (by omega)
          have t1 : ((t : Int) - 16).toNat = t - 16 := by omega
          have t2 : ((t : Int) - 15).toNat = t - 15 := by omega
          have t3 : ((t : Int) - 7).toNat = t - 7 := by omega
          have t4 : ((t : Int) - 2).toNat = t - 2 := by omega
          have n1 : (16 : Int) ≤ (t : Int) := by omega
          have n2 : (15 : Int) ≤ (t : Int) := by omega
          have n3 : (7 : Int) ≤ (t : Int) := by omega
          have n4 : (2 : Int) ≤ (t : Int) := by omega
          have m1 : (t : Int) - 16 < 64 := by omega
          have m2 : (t : Int) - 15 < 64 := by omega
          have m3 : (t : Int) - 7 < 64 := by omega
          have m4 : (t : Int) - 2 < 64 := by omega
          have m5 : (t : Int) < 64 := by omega
          have o1 : t - 16 ≠ t := by omega
          have o2 : t - 15 ≠ t := by omega
          have o3 : t - 7 ≠ t := by omega
          have o4 : t - 2 ≠ t := by omega
          go_wp2_with fail
          go_region_held3 (fun w' => ((w'.cell? ⟨w1.heap.size, t - 16, none⟩ = some (.int .u32 (x1 : Int)) ∧ w'.cell? ⟨w1.heap.size, t - 15, none⟩ = some (.int .u32 (x2 : Int))) ∧ (w'.cell? ⟨w1.heap.size, t - 7, none⟩ = some (.int .u32 (x3 : Int)) ∧ w'.cell? ⟨w1.heap.size, t - 2, none⟩ = some (.int .u32 (x4 : Int)))))
            (first | exact ⟨⟨q1, q2⟩, ⟨q3, q4⟩⟩ | exact ⟨⟨(set_ne o1).trans q1, (set_ne o2).trans q2⟩, ⟨(set_ne o3).trans q3, (set_ne o4).trans q4⟩⟩ | go_keep)
            (first
              | (go_at_call 44; (with_reducible refine (mix_7 x2 HX2.out _).mono ?_); rintro e w' ⟨rfl, ⟨nA, rfl⟩⟩)
              | (go_at_call 44; (with_reducible refine (mix_17 x4 HX4.out _).mono ?_); rintro e w' ⟨rfl, ⟨nB, rfl⟩⟩))
          have hv : IntKind.u32.wrap (IntKind.u32.wrap (IntKind.u32.wrap ((x1 : Int) + ((Sh.mix x2 7 18 3 : Nat) : Int)) + (x3 : Int)) + ((Sh.mix x4 17 19 10 : Nat) : Int)) = ((Sh.nextW (Sh.wordsTo blk n) t : Nat) : Int) := by
            unfold Sh.nextW
            rw [HE1.out, HE2.out, HE3.out, HE4.out, IntKind.wrap_u32', IntKind.wrap_u32', IntKind.wrap_u32']
            unfold Sh.m32
            omega
          rw [hv]
          clear hv q1 q2 q3 q4 q5 q6 s1 s2 s3 s4 t1 t2 t3 t4
          have HT2 : Aside0 (((wr.drewN (1 + nA + nB)).setCell ⟨w1.heap.size, t, none⟩ (.int .u32 ((Sh.nextW (Sh.wordsTo blk n) t : Nat) : Int))).heap[w1.heap.size]? = some (.cells (wv (Sh.wordsTo blk (n + 1) ++ List.replicate (48 - (n + 1)) 0)).toArray 77 (0, 0))) := ⟨by
            have h1 := blk_set (w := wr.drewN (1 + nA + nB)) HT.out t (.int .u32 ((Sh.nextW (Sh.wordsTo blk n) t : Nat) : Int))
            rw [wv_set] at h1
            have h2 := HN2.out
            rw [next_step blk n t (48 - (n + 1)) h2.1 (by omega)] at h1
            exact h1⟩
          have HB2 : Aside0 (Below w.heap.size w ((wr.drewN (1 + nA + nB)).setCell ⟨w1.heap.size, t, none⟩ (.int .u32 ((Sh.nextW (Sh.wordsTo blk n) t : Nat) : Int)))) := ⟨(pw_below_drewN HB.out _).setCell (show w.heap.size ≤ w1.heap.size by have := HS1.out; omega) _⟩
          clear HT HB
          generalize (wr.drewN (1 + nA + nB)).setCell ⟨w1.heap.size, t, none⟩ (.int .u32 ((Sh.nextW (Sh.wordsTo blk n) t : Nat) : Int)) = w5 at HT2 HB2 ⊢
          go_wp2
          go_roundw
          case rel => exact ⟨t + 1, n + 1, by go_num, ⟨by have := HN2.out; omega⟩, HT2, HB2⟩
          case measure => simp [intOf]; omega
        · have c1 : decide ((t : Int) < 64) = false := decide_eq_false (by omega)
          have hn : n = 48 := by have := HN2.out; omega
          have HF : Aside0 (wr.heap[w1.heap.size]? = some (.cells (wv (Sh.wordsOf blk)).toArray 77 (0, 0))) := ⟨by have h := HT.out; rw [hn, Nat.sub_self, List.replicate_zero, List.append_nil] at h; exact h⟩
          clear HT hn
          go_wp2_with (first
            | (refine wpList_load_row rfl 77 _ rfl w1.heap.size rfl 77 _ (0, 0) _ HF.out Try.underlying77 rfl (by kernel_rfl) ?_)
            | (refine store_ev w1.heap.size (wv (Sh.wordsOf blk)).toArray (wv (Sh.wordsOf blk)).toArray 77 77 _ _ rfl rfl rfl rfl HF.out (by rw [List.size_toArray, wv_length, Sh.wordsOf_length]; kernel_rfl) rfl (wv_one _) ?_; intro w4 BK4 HK4))
          refine bodyPost_ret (results_cell_row rfl _ _ w1.heap.size 77 (wv (Sh.wordsOf blk)).toArray (0, 0) _ rfl BK4.out Try.underlying77 rfl (by rw [List.size_toArray, wv_length, Sh.wordsOf_length]; kernel_rfl)) rfl ?_
          exact ⟨rfl, below_kg HB.out HB.out.size HK4.out (by have := HS1.out; omega)⟩
end Go.Proofs.Ytmokngiokdffdaa.P
