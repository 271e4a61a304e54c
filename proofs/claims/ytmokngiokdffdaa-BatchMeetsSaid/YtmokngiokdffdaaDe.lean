/-
  One block taken: digest's (*stream).block.
-/
import Derived.Test.YtmokngiokdffdaaDd
import Derived.Test.YtmokngiokdffdaaHx
namespace Go.Proofs.Ytmokngiokdffdaa.P
open Go.RowKit Go.Proofs.YtmokngiokdffdaaW.PrintWords Go.Proofs.YtmokngiokdffdaaW.PrintLast Go.Proofs.YtmokngiokdffdaaW.PrintMore
set_option linter.unusedVariables false

theorem turns_6 (x : Nat) (hx : x < 4294967296) (w : World) :
    Calls Try.prog 42 #[.int .u32 (x : Int), .int .i64 6, .int .i64 11, .int .i64 25] w fun e w' => e = .returned (.int .u32 ((Sh.turn x 6 11 25 : Nat) : Int)) ∧ Drawn0 w w' :=
  turns_any x 6 11 25 hx (by decide) (by decide) (by decide) (by decide) (by decide) (by decide) w
theorem turns_2 (x : Nat) (hx : x < 4294967296) (w : World) :
    Calls Try.prog 42 #[.int .u32 (x : Int), .int .i64 2, .int .i64 13, .int .i64 22] w fun e w' => e = .returned (.int .u32 ((Sh.turn x 2 13 22 : Nat) : Int)) ∧ Drawn0 w w' :=
  turns_any x 2 13 22 hx (by decide) (by decide) (by decide) (by decide) (by decide) (by decide) w

/-- The cells of a stream: its words so far, the bytes that wait, how many came. -/
def strm (s : Sh.St) (wait : List Int) (n : Int) : List Value := wv s.list ++ (nums .u8 wait ++ [.int .i64 n])
theorem strm_word {w : World} {g : Nat} {s : Sh.St} {wait : List Int} {n : Int} (h : w.heap[g]? = some (.cells (strm s wait n).toArray 84 (0, 0))) (i : Nat) (hi : i < 8) : w.cell? ⟨g, i, none⟩ = some (.int .u32 ((s.list.getD i 0 : Nat) : Int)) := by
  rw [blk_cell h i]
  unfold strm
  have hl : (wv s.list).length = 8 := by rw [wv_length]; rfl
  have hl2 : i < s.list.length := hi
  rw [List.getElem?_toArray, List.getElem?_append_left (by omega)]
  simp [wv, hl2, List.getD_eq_getElem?_getD]
theorem strm_wait {w : World} {g : Nat} {s : Sh.St} {wait : List Int} {n : Int} (hl : wait.length = 64) (h : w.heap[g]? = some (.cells (strm s wait n).toArray 84 (0, 0))) (j : Nat) (v : Value) (hv : (nums .u8 wait)[j]? = some v) : w.cell? ((⟨g, 8, none⟩ : Addr).add j) = some v := by
  rw [add_at, blk_cell h]
  unfold strm
  have hl8 : (wv s.list).length = 8 := by rw [wv_length]; rfl
  have hj : j < (nums .u8 wait).length := (List.getElem?_eq_some_iff.1 hv).1
  rw [List.getElem?_toArray, List.getElem?_append_right (by omega), hl8, Nat.add_sub_cancel_left, List.getElem?_append_left hj]
  exact hv
theorem strm_n {w : World} {g : Nat} {s : Sh.St} {wait : List Int} {n : Int} (hl : wait.length = 64) (h : w.heap[g]? = some (.cells (strm s wait n).toArray 84 (0, 0))) : w.cell? ⟨g, 72, none⟩ = some (.int .i64 n) := by
  rw [blk_cell h]
  unfold strm
  have hl8 : (wv s.list).length = 8 := by rw [wv_length]; rfl
  have hl64 : (nums .u8 wait).length = 64 := by rw [nums_length]; exact hl
  rw [List.getElem?_toArray, List.getElem?_append_right (by omega), List.getElem?_append_right (by omega), hl8, hl64]
  rfl

theorem wv_size (L : List Nat) : (wv L).toArray.size = L.length := by rw [List.size_toArray, wv_length]
theorem size77 {L : List Nat} (h : L.length = 64) : (Try.prog.info? 77).map (·.size) = some (wv L).toArray.size := by
  rw [wv_size, h]; kernel_rfl
theorem zerosU32_size {L : List Nat} (h : L.length = 64) : zerosU32.size = (wv L).toArray.size := by
  rw [wv_size, h]; kernel_rfl
theorem size82 {L : List Int} (h : L.length = 64) : (Try.prog.info? 82).map (·.size) = some (nums .u8 L).length := by
  rw [nums_length, h]; kernel_rfl

theorem xor_max32 (x : Nat) (hx : x < 4294967296) : bits .xor .u32 IntKind.u32.max (x : Int) = ((4294967295 - x : Nat) : Int) := by
  have e : IntKind.u32.max = ((4294967295 : Nat) : Int) := rfl
  rw [e, u32_xor_nat _ _ (by decide) hx]
  congr 1
  apply Nat.eq_of_testBit_eq
  intro i
  have h3 : 4294967295 - x = 2 ^ 32 - (x + 1) := by omega
  have h2 : (4294967295 : Nat) = 2 ^ 32 - 1 := by decide
  rw [h3, Nat.testBit_two_pow_sub_succ (by simpa using hx), Nat.testBit_xor, h2, Nat.testBit_two_pow_sub_one]
  by_cases hi : i < 32
  · simp [hi]
  · have : x.testBit i = false := Nat.testBit_lt_two_pow (Nat.lt_of_lt_of_le (show x < 2 ^ 32 by simpa using hx) (Nat.pow_le_pow_right (by decide) (by omega)))
    simp [hi, this]
theorem one_val (ra rb rc rd re rf rg rh kk wk : Nat) (he : re < 4294967296) (hf : rf < 4294967296) (hg : rg < 4294967296) :
    IntKind.u32.wrap (IntKind.u32.wrap (IntKind.u32.wrap (IntKind.u32.wrap ((rh : Int) + ((Sh.turn re 6 11 25 : Nat) : Int)) + bits .xor .u32 (bits .and .u32 (re : Int) (rf : Int)) (bits .and .u32 (bits .xor .u32 IntKind.u32.max (re : Int)) (rg : Int))) + ((kk : Nat) : Int)) + (wk : Int)) = ((Sh.tOne ⟨ra, rb, rc, rd, re, rf, rg, rh⟩ kk wk : Nat) : Int) := by
  rw [xor_max32 re he, u32_and_nat _ _ he hf, u32_and_nat _ _ (by omega) hg, u32_xor_nat _ _ (Sh.and_lt _ _ he) (Sh.and_lt _ _ (by omega))]
  have e : re &&& rf ^^^ (4294967295 - re) &&& rg = Sh.ch re rf rg := rfl
  rw [e]
  unfold Sh.tOne Sh.m32
  simp only [IntKind.wrap_u32']
  omega
theorem two_val (ra rb rc rd re rf rg rh : Nat) (ha : ra < 4294967296) (hb : rb < 4294967296) (hc : rc < 4294967296) :
    IntKind.u32.wrap (((Sh.turn ra 2 13 22 : Nat) : Int) + bits .xor .u32 (bits .xor .u32 (bits .and .u32 (ra : Int) (rb : Int)) (bits .and .u32 (ra : Int) (rc : Int))) (bits .and .u32 (rb : Int) (rc : Int))) = ((Sh.tTwo ⟨ra, rb, rc, rd, re, rf, rg, rh⟩ : Nat) : Int) := by
  rw [u32_and_nat _ _ ha hb, u32_and_nat _ _ ha hc, u32_and_nat _ _ hb hc, u32_xor_nat _ _ (Sh.and_lt _ _ ha) (Sh.and_lt _ _ ha), u32_xor_nat _ _ (Sh.xor_lt _ _ (Sh.and_lt _ _ ha) (Sh.and_lt _ _ ha)) (Sh.and_lt _ _ hb)]
  have e : ra &&& rb ^^^ ra &&& rc ^^^ rb &&& rc = Sh.maj ra rb rc := rfl
  rw [e]
  unfold Sh.tTwo Sh.m32
  simp only [IntKind.wrap_u32']
  omega
theorem wrap_add32 (x y : Nat) : IntKind.u32.wrap ((x : Int) + (y : Int)) = ((Sh.m32 (x + y) : Nat) : Int) := by rw [← wrap_u32n]; rfl

theorem wv_get (L : List Nat) (i : Nat) (h : i < L.length) : (wv L).toArray[i]? = some (.int .u32 ((L.getD i 0 : Nat) : Int)) := by
  simp [wv, h, List.getD_eq_getElem?_getD]
def strmL (L : List Nat) (wait : List Int) (n : Int) : List Value := wv L ++ (nums .u8 wait ++ [.int .i64 n])
theorem strmL_cell {w : World} {g : Nat} {L : List Nat} {wait : List Int} {n : Int} (h : w.heap[g]? = some (.cells (strmL L wait n).toArray 84 (0, 0))) (i : Nat) (hi : i < L.length) : w.cell? ⟨g, i, none⟩ = some (.int .u32 ((L.getD i 0 : Nat) : Int)) := by
  rw [blk_cell h i]
  unfold strmL
  rw [List.getElem?_toArray, List.getElem?_append_left (by rw [wv_length]; exact hi)]
  simp [wv, hi, List.getD_eq_getElem?_getD]
theorem strmL_set (L : List Nat) (wait : List Int) (n : Int) (i x : Nat) (hi : i < L.length) : (strmL L wait n).toArray.setIfInBounds i (.int .u32 ((x : Nat) : Int)) = (strmL (L.set i x) wait n).toArray := by
  unfold strmL
  rw [List.setIfInBounds_toArray, List.set_append, if_pos (by rw [wv_length]; exact hi)]
  simp [wv, List.map_set]
theorem eight (j : Nat) (h : j < 8) : j = 0 ∨ j = 1 ∨ j = 2 ∨ j = 3 ∨ j = 4 ∨ j = 5 ∨ j = 6 ∨ j = 7 := by omega
theorem add_step (s r : Sh.St) (j : Nat) (h : j < 8) :
    ((Sh.addSt s r).list.take j ++ s.list.drop j).set j (Sh.m32 (s.list.getD j 0 + r.list.getD j 0)) = (Sh.addSt s r).list.take (j + 1) ++ s.list.drop (j + 1) ∧ ((Sh.addSt s r).list.take j ++ s.list.drop j).getD j 0 = s.list.getD j 0 ∧ ((Sh.addSt s r).list.take j ++ s.list.drop j).length = 8 := by
  rcases eight j h with rfl | rfl | rfl | rfl | rfl | rfl | rfl | rfl <;> exact ⟨rfl, rfl, rfl⟩

set_option maxRecDepth 100000 in
set_option maxHeartbeats 2000000 in
theorem block_any (g : Nat) (s : Sh.St) (hs : s.ok) (wait : List Int) (hl : wait.length = 64) (hby : ∀ x ∈ wait, 0 ≤ x ∧ x < 256) (n : Int) (w : World) (hb : w.heap[g]? = some (.cells (strm s wait n).toArray 84 (0, 0))) :
    Calls Try.prog 40 #[.pointer (some ⟨g, 0, none⟩)] w fun e w' => e = .returned (.tuple #[]) ∧ w'.heap[g]? = some (.cells (strm (Sh.block s wait) wait n).toArray 84 (0, 0)) ∧ w.grownBy w' (some g) := by
  have HS := Aside0.mk hs
  have HL := Aside0.mk hl
  have HBY := Aside0.mk hby
  have HG := Aside0.mk hb
  clear hs hl hby hb
  have HU82 := Aside0.mk Try.underlying82
  go_enter Try.func40, Try.ntmps40
  go_wp2_with (first
    | (refine load_ev 82 _ ⟨g, 8, none⟩ (nums .u8 wait) _ rfl rfl rfl (strm_wait HL.out HG.out) HU82.out rfl (size82 HL.out) ?_)
    | (go_at_call 41; (with_reducible refine (words_any wait HL.out HBY.out _).mono ?_); rintro e w1 ⟨rfl, hb1⟩; have HB1 := Aside0.mk hb1; clear hb1)
    | (refine alloc_ev zerosU32 77 rfl rfl (by kernel_rfl) ?_; intro w2 BK2 HB2 HS2)
    | (refine store_ev w1.heap.size (wv (Sh.wordsOf wait)).toArray zerosU32 77 77 _ _ rfl rfl rfl rfl BK2.out (size77 (Sh.wordsOf_length wait)) (zerosU32_size (Sh.wordsOf_length wait)) (wv_one _) ?_; intro w3 BK3 HK3))
  have HBA := Aside0.mk (below_step HB1.out HB2.out)
  have HBB := Aside0.mk (below_kg HBA.out HBA.out.size HK3.out HB1.out.size)
  have HG3 : Aside0 (w3.heap[g]? = some (.cells (strm s wait n).toArray 84 (0, 0))) := ⟨(HBB.out.block g (blk_lt HG.out)).trans HG.out⟩
  have p0 : w3.cell? ⟨g, 0, none⟩ = some (.int .u32 ((s.a : Nat) : Int)) := strm_word HG3.out 0 (by decide)
  have p1 : w3.cell? ⟨g, 1, none⟩ = some (.int .u32 ((s.b : Nat) : Int)) := strm_word HG3.out 1 (by decide)
  have p2 : w3.cell? ⟨g, 2, none⟩ = some (.int .u32 ((s.c : Nat) : Int)) := strm_word HG3.out 2 (by decide)
  have p3 : w3.cell? ⟨g, 3, none⟩ = some (.int .u32 ((s.d : Nat) : Int)) := strm_word HG3.out 3 (by decide)
  have p4 : w3.cell? ⟨g, 4, none⟩ = some (.int .u32 ((s.e : Nat) : Int)) := strm_word HG3.out 4 (by decide)
  have p5 : w3.cell? ⟨g, 5, none⟩ = some (.int .u32 ((s.f : Nat) : Int)) := strm_word HG3.out 5 (by decide)
  have p6 : w3.cell? ⟨g, 6, none⟩ = some (.int .u32 ((s.g : Nat) : Int)) := strm_word HG3.out 6 (by decide)
  have p7 : w3.cell? ⟨g, 7, none⟩ = some (.int .u32 ((s.h : Nat) : Int)) := strm_word HG3.out 7 (by decide)
  go_quiet (fail)
  clear p0 p1 p2 p3 p4 p5 p6 p7
  go_wp2_with fail
  have HBL := Aside0.mk (pw_below_drewN (Below.refl w3.heap.size w3) nq)
  have HI : Aside0 ((⟨s.a, s.b, s.c, s.d, s.e, s.f, s.g, s.h⟩ : Sh.St) = Sh.rounds s (Sh.wordsOf wait) 0) := ⟨rfl⟩
  generalize w3.drewN nq = w4 at HBL ⊢
  go_loopw [3, 4, 5, 6, 7, 8, 9, 10, 61] (fun v3 v4 v5 v6 v7 v8 v9 v10 v61 wr => ∃ k ra rb rc rd re rf rg rh : Nat, v61 = .int .i64 k ∧ v3 = .int .u32 ((ra : Nat) : Int) ∧ v4 = .int .u32 ((rb : Nat) : Int) ∧ v5 = .int .u32 ((rc : Nat) : Int) ∧ v6 = .int .u32 ((rd : Nat) : Int) ∧ v7 = .int .u32 ((re : Nat) : Int) ∧ v8 = .int .u32 ((rf : Nat) : Int) ∧ v9 = .int .u32 ((rg : Nat) : Int) ∧ v10 = .int .u32 ((rh : Nat) : Int) ∧ Aside0 (k ≤ 64) ∧ Aside0 ((⟨ra, rb, rc, rd, re, rf, rg, rh⟩ : Sh.St) = Sh.rounds s (Sh.wordsOf wait) k) ∧ Aside0 (Below w3.heap.size w3 wr)) (fun _ _ _ _ _ _ _ _ v61 _ => 64 - (intOf v61).toNat)
  case atStart => exact ⟨0, s.a, s.b, s.c, s.d, s.e, s.f, s.g, s.h, rfl, rfl, rfl, rfl, rfl, rfl, rfl, rfl, rfl, ⟨by omega⟩, HI, HBL⟩
  case round =>
    clear HI HBL
    obtain ⟨k, ra, rb, rc, rd, re, rf, rg, rh, rfl, rfl, rfl, rfl, rfl, rfl, rfl, rfl, rfl, HK, HI, HBL⟩ := hrel
    by_cases hk : k < 64
    · have c0 : decide ((k : Int) < 64) = true := decide_eq_true (by omega)
      have hok : (⟨ra, rb, rc, rd, re, rf, rg, rh⟩ : Sh.St).ok := by rw [HI.out]; exact Sh.rounds_ok HS.out _ _
      have HOK := Aside0.mk hok
      have HRA := Aside0.mk hok.1
      have HRE := Aside0.mk hok.2.2.2.2.1
      obtain ⟨wk, hwk⟩ : ∃ x, (Sh.wordsOf wait).getD k 0 = x := ⟨_, rfl⟩
      have HWK := Aside0.mk hwk
      have q1 : wr.cell? ⟨w1.heap.size, k, none⟩ = some (.int .u32 (wk : Int)) := by
        have h := wv_cell BK3.out k (by rw [Sh.wordsOf_length]; exact hk)
        rw [hwk] at h
        exact pw_cell_below HBL.out h
      clear hok hwk
      have m5 : (k : Int) < 64 := by omega
      go_wp2_with fail
      go_region_held3 (fun w' => w'.cell? ⟨w1.heap.size, k, none⟩ = some (.int .u32 (wk : Int)))
        (first | exact q1 | go_keep)
        (first
          | (go_at_call 42; (with_reducible refine (turns_6 re HRE.out _).mono ?_); rintro e w' ⟨rfl, ⟨nA, rfl⟩⟩)
          | (go_at_call 43; (with_reducible refine (round_any k hk _).mono ?_); rintro e wB ⟨rfl, hbl⟩; have q2 := pw_cell_below hbl q1; clear q1; have q1 := q2; clear q2; have HBN := Aside0.mk (below_step (by first | exact HBL.out | exact below_drew HBL.out | exact pw_below_drewN HBL.out _ : Below w3.heap.size w3 _) hbl); clear hbl))
      rw [one_val ra rb rc rd re rf rg rh (Sh.kOf k) wk HOK.out.2.2.2.2.1 HOK.out.2.2.2.2.2.1 HOK.out.2.2.2.2.2.2.1]
      obtain ⟨X, hX⟩ : ∃ X, Sh.tOne ⟨ra, rb, rc, rd, re, rf, rg, rh⟩ (Sh.kOf k) wk = X := ⟨_, rfl⟩
      rw [hX]
      have HX := Aside0.mk hX
      clear hX q1
      go_wp2_with (go_at_call 42; (with_reducible refine (turns_2 ra HRA.out _).mono ?_); rintro e w' ⟨rfl, ⟨nC, rfl⟩⟩)
      go_roundw
      case rel =>
        refine ⟨k + 1, Sh.m32 (X + Sh.tTwo ⟨ra, rb, rc, rd, re, rf, rg, rh⟩), ra, rb, rc, Sh.m32 (rd + X), re, rf, rg, by go_num, ?_, rfl, rfl, rfl, ?_, rfl, rfl, rfl, ⟨by omega⟩, ⟨?_⟩, ⟨?_⟩⟩
        · rw [← IntKind.wrap_u32', ← IntKind.wrap_u32', two_val ra rb rc rd re rf rg rh HOK.out.1 HOK.out.2.1 HOK.out.2.2.1, wrap_add32]
        · rw [← IntKind.wrap_u32', wrap_add32]
        · rw [Sh.rounds, ← HI.out, HWK.out]
          unfold Sh.round
          rw [HX.out]
        · exact pw_below_drewN HBN.out _
      case measure => simp [intOf]; omega
    · have c0 : decide ((k : Int) < 64) = false := decide_eq_false (by omega)
      have hk64 : k = 64 := by have := HK.out; omega
      have HR : Aside0 ((⟨ra, rb, rc, rd, re, rf, rg, rh⟩ : Sh.St) = Sh.rounds s (Sh.wordsOf wait) 64) := ⟨by rw [← hk64]; exact HI.out⟩
      clear hk64 HI
      have HBK : Aside0 (wr.heap[g]? = some (.cells (strm s wait n).toArray 84 (0, 0))) := ⟨(HBL.out.block g (blk_lt HG3.out)).trans HG3.out⟩
      have HKW := Aside0.mk (kg_trans (kg_below (g := g) HBB.out) (kg_below HBL.out))
      clear HBL
      go_wp2_with (refine build_ev (wv [ra, rb, rc, rd, re, rf, rg, rh]).toArray 67 _ rfl rfl (by kernel_rfl) ?_)
      have HC : Aside0 (wr.heap[g]? = some (.cells (strmL ((Sh.addSt s ⟨ra, rb, rc, rd, re, rf, rg, rh⟩).list.take 0 ++ s.list.drop 0) wait n).toArray 84 (0, 0))) := ⟨HBK.out⟩
      clear HBK
      go_loopw [120] (fun v120 wr => ∃ j : Nat, v120 = .int .i64 j ∧ Aside0 (j ≤ 8) ∧ Aside0 (wr.heap[g]? = some (.cells (strmL ((Sh.addSt s ⟨ra, rb, rc, rd, re, rf, rg, rh⟩).list.take j ++ s.list.drop j) wait n).toArray 84 (0, 0))) ∧ Aside0 (w.grownBy wr (some g))) (fun v120 _ => 8 - (intOf v120).toNat)
      case atStart => exact ⟨0, rfl, ⟨by omega⟩, HC, HKW⟩
      case round =>
        clear HC HKW
        obtain ⟨j, rfl, HJ, HC, HKW⟩ := hrel
        by_cases hj : j < 8
        · have c1 : decide ((j : Int) < 8) = true := decide_eq_true (by omega)
          obtain ⟨a1, a2, a3⟩ := add_step s ⟨ra, rb, rc, rd, re, rf, rg, rh⟩ j hj
          obtain ⟨y, hy⟩ : ∃ y, s.list.getD j 0 = y := ⟨_, rfl⟩
          obtain ⟨x, hx⟩ : ∃ x, [ra, rb, rc, rd, re, rf, rg, rh].getD j 0 = x := ⟨_, rfl⟩
          have q1 : wr.cell? ⟨g, j, none⟩ = some (.int .u32 (y : Int)) := by
            have h := strmL_cell HC.out j (by rw [a3]; exact hj)
            rw [a2, hy] at h; exact h
          have q2 : wr.frozen? ⟨g, j, none⟩ = false := blk_frozen HC.out j
          have hv : (wv [ra, rb, rc, rd, re, rf, rg, rh]).toArray[j]? = some (.int .u32 (x : Int)) := by
            rw [← hx]; exact wv_get _ j hj
          have HV := Aside0.mk hv
          have HA1 : Aside0 (((Sh.addSt s ⟨ra, rb, rc, rd, re, rf, rg, rh⟩).list.take j ++ s.list.drop j).set j (Sh.m32 (y + x)) = (Sh.addSt s ⟨ra, rb, rc, rd, re, rf, rg, rh⟩).list.take (j + 1) ++ s.list.drop (j + 1)) := ⟨by rw [← hy, ← hx]; exact a1⟩
          have HA3 := Aside0.mk a3
          clear a1 a2 a3 hy hx hv
          have m1 : (j : Int) < 8 := by omega
          go_wp2_with (refine index_ev 67 66 _ _ (wv [ra, rb, rc, rd, re, rf, rg, rh]).toArray j 8 (.int .u32 (x : Int)) .u32 rfl rfl rfl rfl Try.underlying67 Try.underlying66 (by kernel_rfl) hj HV.out ?_)
          go_still_tail 11, (by kernel_rfl)
          rw [wrap_add32]
          change wpList _ _ _ _ _ wr.drew
          have HC1 : Aside0 (wr.drew.heap[g]? = some (.cells (strmL ((Sh.addSt s ⟨ra, rb, rc, rd, re, rf, rg, rh⟩).list.take j ++ s.list.drop j) wait n).toArray 84 (0, 0))) := ⟨HC.out⟩
          have HKW1 := Aside0.mk (kg_drew HKW.out)
          have q11 : wr.drew.cell? ⟨g, j, none⟩ = some (.int .u32 (y : Int)) := q1
          have q21 : wr.drew.frozen? ⟨g, j, none⟩ = false := q2
          clear q1 q2 HC HKW
          generalize wr.drew = w5 at *
          obtain ⟨z, hz⟩ : ∃ z, Sh.m32 (y + x) = z := ⟨_, rfl⟩
          rw [hz]
          have HZ := Aside0.mk hz
          clear hz
          go_wp2
          go_roundw
          case rel =>
            refine ⟨j + 1, by go_num, ⟨by omega⟩, ⟨?_⟩, ⟨kg_trans HKW1.out (kg_set _ _ _)⟩⟩
            have h1 := blk_set HC1.out j (.int .u32 ((z : Nat) : Int))
            rw [strmL_set _ _ _ _ _ (by rw [HA3.out]; exact hj), ← HZ.out, HA1.out] at h1
            rw [← HZ.out]
            exact h1
          case measure => simp [intOf]; omega
        · have c1 : decide ((j : Int) < 8) = false := decide_eq_false (by omega)
          have hj8 : j = 8 := by have := HJ.out; omega
          have HF : Aside0 (wr.heap[g]? = some (.cells (strm (Sh.block s wait) wait n).toArray 84 (0, 0))) := ⟨by
            have h := HC.out
            rw [hj8, HR.out] at h
            exact h⟩
          clear hj8 HC HR
          go_wp2
          go_end0
          exact ⟨rfl, HF.out, HKW.out⟩
end Go.Proofs.Ytmokngiokdffdaa.P
