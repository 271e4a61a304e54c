/-
  digest's stream: begun, and bytes written into it.
-/
import Derived.Test.YtmokngiokdffdaaDe
import Derived.Laws.CopyOwn
import Derived.StillTailTactics
namespace Go.Proofs.Ytmokngiokdffdaa.P
open Go.RowKit Go.Proofs.YtmokngiokdffdaaW.PrintWords Go.Proofs.YtmokngiokdffdaaW.PrintLast Go.Proofs.YtmokngiokdffdaaW.PrintMore
set_option linter.unusedVariables false

section
variable {P : Program} {ops : Array Oper} {rest : List Oper} {o : Oper} {a : Act} {Q : Exit → Act → World → Prop} {W : World}
/-- copy into a row of which block g is made, from another block. -/
theorem copy_ev (hgd : o.guard = none) (d s : Operand) (dT sT : TypeId)
    (ho : o.op = .call { callee := .builtin .copy, args := #[d, s], argTypes := #[dT, sT] }) (elem : TypeId) (hu : P.underlying dT = some (.slice elem)) (hsz : (P.info? elem).map (·.size) = some 1)
    (g off dLen dCap : Nat) (ad : Addr) (sLen sCap : Nat) (hd : a.eval d = .slice (some ⟨g, off, none⟩) dLen dCap) (hs : a.eval s = .slice (some ad) sLen sCap)
    (cur : List Value) (t : TypeId) (hg : W.heap[g]? = some (.cells cur.toArray t (0, 0))) (cs : List Value) (hn : cs.length = Nat.min sLen dLen)
    (hsrc : ∀ j v, cs[j]? = some v → W.cell? (ad.add j) = some v) (hfit : off + cs.length ≤ cur.length) (h1 : ∀ v ∈ cs, v.oneCell' = true) (kk : Nat) (hkk : cs.length = kk)
    (h : ∀ w', Aside0 (w'.heap[g]? = some (.cells (splice cur off cs).toArray t (0, 0))) → Aside0 (W.grownBy w' (some g)) → wpList P ops Q rest (a.put o.dst (.int .i64 (kk : Int))) w') : wpList P ops Q (o :: rest) a W := by
  subst hkk
  refine wpList_copy_own hgd d s dT sT ho elem hu hsz g off dLen dCap ad sLen sCap hd hs cur.toArray t hg cs hn hsrc (by simpa using hfit) h1 ?_
  exact h _ ⟨by simpa [splice] using setRow_heap W g _ _ t _ hg⟩ ⟨rfl, rfl, rfl, by simp, fun k hk hne => setRow_other W g k _ (fun e => hne (by rw [e]))⟩
end

/-- A stream at block g that has taken the bytes bs. -/
structure Str (w : World) (g : Nat) (bs : List Int) : Prop where
  blk : ∃ wait, wait.length = 64 ∧ (∀ x ∈ wait, 0 ≤ x ∧ x < 256) ∧ w.heap[g]? = some (.cells (strm (Sh.blocks bs (bs.length / 64)) wait (bs.length : Int)).toArray 84 (0, 0)) ∧ wait.take (bs.length % 64) = bs.drop (64 * (bs.length / 64))
theorem Str.keep {w w1 : World} {g : Nat} {bs : List Int} (h : Str w g bs) (hb : w1.heap[g]? = w.heap[g]?) : Str w1 g bs := by
  obtain ⟨wait, h1, h2, h3, h4⟩ := h.blk
  exact ⟨⟨wait, h1, h2, hb.trans h3, h4⟩⟩
theorem Str.lt {w : World} {g : Nat} {bs : List Int} (h : Str w g bs) : g < w.heap.size := by
  obtain ⟨wait, h1, h2, h3, h4⟩ := h.blk
  exact blk_lt h3
theorem Str.below {w w1 : World} {g : Nat} {bs : List Int} (h : Str w g bs) (hb : Below w.heap.size w w1) : Str w1 g bs := h.keep (hb.block g h.lt)

def zwait : List Int := List.replicate 64 0
set_option maxRecDepth 100000 in
set_option maxHeartbeats 1000000 in
theorem begun_any (w : World) :
    Calls Try.prog 33 #[] w fun e w' => e = .returned (.pointer (some ⟨w.heap.size, 0, none⟩)) ∧ Str w' w.heap.size [] ∧ Below w.heap.size w w' := by
  go_enter Try.func33, Try.ntmps33
  go_wp2_with (first
    | (refine build_ev (wv Sh.start.list).toArray 67 _ rfl rfl (by kernel_rfl) ?_)
    | (refine build_ev (strm Sh.start zwait 0).toArray 84 _ rfl rfl (by kernel_rfl) ?_)
    | (refine box_ev (strm Sh.start zwait 0).toArray 84 _ rfl rfl rfl ?_; intro w1 BK1 HB1 HS1))
  go_ret
  refine ⟨rfl, ⟨⟨zwait, by decide, by decide, BK1.out, rfl⟩⟩, HB1.out⟩

/-- How many a slice has: for a measure. -/
def lenOf : Value → Nat | .slice _ n _ => n | _ => 0
/-- 'b[m:]' without a case on the capacity; the new address lies in the same block. -/
theorem my_cut {P : Program} (t e : TypeId) (kl : IntKind) {i : TypeInfo} (ht : P.underlying t = some (.slice e)) (hi : P.info? e = some i) (hsz : i.size = 1) (A : Option Addr) (n c m : Nat) (hm : m ≤ n) :
    ∃ A' : Option Addr, (∀ W : World, (Instr.slice t (.slice A n c) (some (.int kl (m : Int))) none none).run P W = .ok (.slice A' (n - m) (c - m)) W) ∧
      (∀ (w : World) (k : IntKind) (xs : List Int), n ≤ c → ReadsInt w k A n xs → ReadsInt w k A' (n - m) (xs.drop m)) ∧ ∀ a, A' = some a → ∃ a0, A = some a0 ∧ a.block = a0.block := by
  refine ⟨if c = m then A else A.map (·.add m), fun W => ?_, fun w k xs hc h => h.drop_ m hm hc, fun a h => ?_⟩
  · have hel : P.elem t = e := by simp [Program.elem, ht]
    have hu : P.underlying t = some (.slice (P.elem t)) := by rw [hel]; exact ht
    rw [run_slice_l W t A n c hu kl (m : Int) (Int.natCast_nonneg _) (by omega), hel]
    simp [sizeOf, typeInfo, hi, hsz, sliced, Result.andThen]
  · split at h
    · exact ⟨a, h, rfl⟩
    · cases A with
      | none => cases h
      | some a0 =>
        refine ⟨a0, rfl, ?_⟩
        have : a = a0.add m := by simpa using h.symm
        rw [this]; unfold Addr.add; split <;> rfl

theorem reads_of_kd {w : World} {A : Option Addr} {l : List Int} (h : Kd.C (Kd.int .u8) w A l.length l) : ReadsInt w .u8 A l.length l := by
  refine ⟨rfl, Kd.C_max h, fun hp => ?_⟩
  obtain ⟨ad, rfl, _⟩ := Kd.at_int h 0 (by omega) (by omega)
  refine ⟨ad, rfl, fun i hi => ?_⟩
  obtain ⟨ad2, e, hc⟩ := Kd.at_int h (i : Int) (by omega) (by omega)
  cases e
  simpa [rd] using hc

theorem str_step (bs xs wait : List Int) (N o k : Nat) (hN : bs.length = N) (ho : N % 64 = o) (hk : xs.length = k) (hok : o + k ≤ 64) (hw : wait.length = 64) (h4 : wait.take (N % 64) = bs.drop (64 * (N / 64))) :
    (splice wait o xs).length = 64 ∧ (splice wait o xs).take (o + k) = (bs ++ xs).drop (64 * (N / 64)) := by
  refine ⟨by rw [length_splice _ _ _ (by omega), hw], ?_⟩
  have hl : (wait.take o).length = o := by rw [List.length_take]; omega
  unfold splice
  rw [← List.append_assoc, List.take_append_of_le_length (by rw [List.length_append]; omega), List.take_of_length_le (by rw [List.length_append]; omega), List.drop_append_of_le_length (by omega), ← h4, ho]
theorem splice_strm (s : Sh.St) (wait xs : List Int) (n : Int) (o : Nat) (h : o + xs.length ≤ wait.length) : splice (strm s wait n) (8 + o) (nums .u8 xs) = strm s (splice wait o xs) n := by
  unfold splice strm
  have hl8 : (wv s.list).length = 8 := by rw [wv_length]; rfl
  have e1 : (wv s.list ++ (nums .u8 wait ++ [Value.int .i64 n])).take (8 + o) = wv s.list ++ (nums .u8 wait).take o := by
    rw [List.take_append, List.take_of_length_le (by omega), hl8, Nat.add_sub_cancel_left, List.take_append_of_le_length (by rw [nums_length]; omega)]
  have e2 : (wv s.list ++ (nums .u8 wait ++ [Value.int .i64 n])).drop (8 + o + (nums .u8 xs).length) = (nums .u8 wait).drop (o + xs.length) ++ [Value.int .i64 n] := by
    rw [List.drop_append, List.drop_eq_nil_of_le (by omega), hl8, nums_length, show 8 + o + xs.length - 8 = o + xs.length by omega, List.drop_append_of_le_length (by rw [nums_length]; omega)]
    rfl
  rw [e1, e2]
  simp [nums, List.map_take, List.map_drop]
theorem splice_mem (wait xs : List Int) (o : Nat) (p : Int → Prop) (h1 : ∀ x ∈ wait, p x) (h2 : ∀ x ∈ xs, p x) : ∀ x ∈ splice wait o xs, p x := by
  intro x hx
  unfold splice at hx
  rcases List.mem_append.1 hx with h | h
  · exact h1 x (List.mem_of_mem_take h)
  · rcases List.mem_append.1 h with h | h
    · exact h2 x h
    · exact h1 x (List.mem_of_mem_drop h)
/-- The stream's number of bytes is written. -/
theorem strm_setn {w : World} {g : Nat} {s : Sh.St} {wait : List Int} {n : Int} (hl : wait.length = 64) (h : w.heap[g]? = some (.cells (strm s wait n).toArray 84 (0, 0))) (m : Int) :
    (w.setCell ⟨g, 72, none⟩ (.int .i64 m)).heap[g]? = some (.cells (strm s wait m).toArray 84 (0, 0)) := by
  have h1 := blk_set h 72 (.int .i64 m)
  have hl8 : (wv s.list).length = 8 := by rw [wv_length]; rfl
  have e : (strm s wait n).toArray.setIfInBounds 72 (.int .i64 m) = (strm s wait m).toArray := by
    unfold strm
    rw [List.setIfInBounds_toArray, List.set_append, if_neg (by omega), hl8, List.set_append, if_neg (by rw [nums_length]; omega), nums_length, hl]
    rfl
  rw [e] at h1
  exact h1

set_option maxRecDepth 100000 in
set_option maxHeartbeats 2000000 in
theorem write_any (g : Nat) (bs l : List Int) (A : Option Addr) (c : Nat) (w : World) (hS : Str w g bs) (hR : ReadsInt w .u8 A l.length l) (hc : l.length ≤ c) (hA : ∀ a, A = some a → 0 < l.length → a.block ≠ g) (hby : ∀ x ∈ l, 0 ≤ x ∧ x < 256) (hlen : bs.length + l.length < 1099511627776) :
    Calls Try.prog 34 #[.pointer (some ⟨g, 0, none⟩), .slice A l.length c] w fun e w' => e = .returned (.tuple #[]) ∧ Str w' g (bs ++ l) ∧ w.grownBy w' (some g) := by
  have HBY := Aside0.mk hby
  have HLEN := Aside0.mk hlen
  have HS0 := Aside0.mk hS
  have HR0 := Aside0.mk hR
  have HC0 := Aside0.mk hc
  have HA0 := Aside0.mk hA
  clear hby hlen hS hR hc hA
  go_enter Try.func34, Try.ntmps34
  go_wp2_with fail
  go_loopw [1] (fun v1 wr => ∃ (i m c' : Nat) (A' : Option Addr), v1 = .slice A' m c' ∧ Aside0 (i + m = l.length ∧ m ≤ c') ∧ Aside0 (ReadsInt w .u8 A' m (l.drop i)) ∧ Aside0 (∀ a, A' = some a → 0 < m → a.block ≠ g) ∧ Aside0 (Str wr g (bs ++ l.take i)) ∧ Aside0 (w.grownBy wr (some g))) (fun v1 _ => (lenOf v1))
  case atStart => exact ⟨0, l.length, c, A, rfl, ⟨by omega, HC0.out⟩, HR0, HA0, ⟨by simpa using HS0.out⟩, ⟨kg_refl _ _⟩⟩
  case round =>
    obtain ⟨i, m, c', A', rfl, HI, HR, HA, HS, HK⟩ := hrel
    by_cases hm : 0 < m
    · have c0 : decide ((0 : Int) < (m : Int)) = true := decide_eq_true (by omega)
      obtain ⟨N, hN⟩ : ∃ N, bs.length + i = N := ⟨_, rfl⟩
      have hil : i ≤ l.length := by have := HI.out; omega
      have hN2 : (bs ++ l.take i).length = N := by rw [List.length_append, List.length_take]; omega
      obtain ⟨o, ho⟩ : ∃ o, N % 64 = o := ⟨_, rfl⟩
      obtain ⟨k, hk⟩ : ∃ k, min m (64 - o) = k := ⟨_, rfl⟩
      have ho64 : o < 64 := by omega
      obtain ⟨wait, hw1, hw2, hw3, hw4⟩ := HS.out.blk
      rw [hN2] at hw3 hw4
      have q1 := strm_n hw1 hw3
      have r1 : Int.tmod (N : Int) 64 = (o : Int) := by rw [Int.tmod_eq_emod_of_nonneg (by omega)]; omega
      have r2 : (N : Int) % 64 = (o : Int) := by omega
      have u1 : (0 : Int) ≤ (o : Int) := by omega
      have u2 : (o : Int) ≤ 64 := by omega
      have u3 : (o : Int) < 64 := by omega
      have HN := Aside0.mk hN; have HN2 := Aside0.mk hN2; have HO := Aside0.mk ho; have HKK := Aside0.mk hk
      have HW1 := Aside0.mk hw1; have HW2 := Aside0.mk hw2; have HW3 := Aside0.mk hw3; have HW4 := Aside0.mk hw4
      clear hN hN2 ho hk hw1 hw2 hw3 hw4
      go_wp2_with fail
      go_still_tail 10, (by kernel_rfl)
      have hb2 : (64 = o) = False := eq_false (by omega)
      simp only [hb2, if_false]
      clear hb2
      have hR := HR.out
      obtain ⟨ad, rfl, hcell⟩ := hR.2.2 hm
      have hxl : ((l.drop i).take k).length = k := by rw [List.length_take, List.length_drop]; have := HI.out; have := HKK.out; omega
      have hsrc : ∀ j v, (nums .u8 ((l.drop i).take k))[j]? = some v → wr.drew.cell? (ad.add j) = some v := fun j v hv => by
        have hj : j < k := by have h := (List.getElem?_eq_some_iff.1 hv).1; rw [nums_length, hxl] at h; exact h
        have hjm : j < m := by have := HKK.out; omega
        have h1 := hcell j hjm
        have hne : (ad.add j).block ≠ g := by rw [show (ad.add j).block = ad.block by unfold Addr.add; split <;> rfl]; exact HA.out ad rfl hm
        have h2 : wr.cell? (ad.add j) = some (.int .u8 ((l.drop i).getD j 0)) := by
          rw [World.cell?_of_block (w := w) (HK.out.block _ (World.block_lt_of_cell? w _ h1) (by simpa using hne))]
          exact h1
        have h3 : v = .int .u8 ((l.drop i).getD j 0) := by
          rw [List.getElem?_eq_getElem (by rw [nums_length, hxl]; exact hj)] at hv
          simp only [nums, List.getElem_map, List.getElem_take, Option.some.injEq] at hv
          rw [← hv, List.getD_eq_getElem?_getD, List.getElem?_eq_getElem]
          rfl
        rw [h3]; exact h2
      have HSRC := Aside0.mk hsrc
      have HXL := Aside0.mk hxl
      clear hR hcell hsrc hxl
      change wpList _ _ _ _ _ wr.drew
      have HKD := Aside0.mk (kg_drew HK.out)
      have HWD : Aside0 (wr.drew.heap[g]? = some (.cells (strm (Sh.blocks (bs ++ l.take i) (N / 64)) wait (N : Int)).toArray 84 (0, 0))) := ⟨HW3.out⟩
      clear HW3 HK q1 HS
      generalize wr.drew = w4 at HSRC HKD HWD ⊢
      have HFT2 : Aside0 (o + ((l.drop i).take k).length ≤ wait.length) := ⟨by rw [HXL.out, HW1.out]; have := HKK.out; omega⟩
      have HFIT : Aside0 (8 + o + (nums .u8 ((l.drop i).take k)).length ≤ (strm (Sh.blocks (bs ++ l.take i) (N / 64)) wait (N : Int)).length) := ⟨by
        have h1 := HFT2.out
        unfold strm
        rw [nums_length, List.length_append, List.length_append, wv_length, nums_length]
        show 8 + o + ((l.drop i).take k).length ≤ 8 + (wait.length + 1)
        omega⟩
      have HONE : Aside0 (∀ v ∈ nums .u8 ((l.drop i).take k), v.oneCell' = true) := ⟨fun v hv => by
        obtain ⟨x, _, rfl⟩ := List.mem_map.1 hv
        rfl⟩
      obtain ⟨hs1, hs2⟩ := str_step (bs ++ l.take i) ((l.drop i).take k) wait N o k HN2.out HO.out HXL.out (by have := HKK.out; omega) HW1.out HW4.out
      have e3 : bs ++ l.take i ++ (l.drop i).take k = bs ++ l.take (i + k) := by rw [List.append_assoc, List.take_add]
      have hlen2 : (bs ++ l.take (i + k)).length = N + k := by rw [← e3, List.length_append, HN2.out, HXL.out]
      have hblk : Sh.blocks (bs ++ l.take (i + k)) (N / 64) = Sh.blocks (bs ++ l.take i) (N / 64) := by rw [← e3]; exact Sh.blocks_append _ _ _ (by rw [HN2.out]; omega)
      rw [e3] at hs2
      have HWL := Aside0.mk hs1
      have HWT := Aside0.mk hs2
      have HL2 := Aside0.mk hlen2
      have HBL := Aside0.mk hblk
      have HWB : Aside0 (∀ x ∈ splice wait o ((l.drop i).take k), 0 ≤ x ∧ x < 256) := ⟨splice_mem _ _ _ _ HW2.out (fun x hx => HBY.out x (List.mem_of_mem_drop (List.mem_of_mem_take hx)))⟩
      have hkm : k ≤ m := by have := HKK.out; omega
      have hk0 : 0 < k := by have := HKK.out; omega
      have hNk : N + k < 1099511627776 := by have := HI.out; have := HLEN.out; have := HN.out; omega
      have HKO : Aside0 (o + k ≤ 64) := ⟨by have := HKK.out; omega⟩
      have HKM : Aside0 (o + k = 64 ∨ k = m) := ⟨by have := HKK.out; omega⟩
      obtain ⟨i0, hi0, _, hz1, _⟩ := info_parts info5
      obtain ⟨A2, hcut, hA2, hA3⟩ := my_cut (P := Try.prog) 53 5 .i64 Try.underlying53 hi0 hz1 (some ad) m c' k hkm
      have HA2 := Aside0.mk hA2
      have HA3 := Aside0.mk hA3
      have HR2 : Aside0 (ReadsInt w .u8 A2 (m - k) (l.drop (i + k))) := ⟨by have h := hA2 w .u8 (l.drop i) HI.out.2 HR.out; rwa [List.drop_drop] at h⟩
      have HAN : Aside0 (∀ a, A2 = some a → 0 < m - k → a.block ≠ g) := ⟨fun a ha _ => by obtain ⟨a0, h0, h1⟩ := hA3 a ha; rw [h1]; exact HA.out a0 h0 hm⟩
      clear hs1 hs2 e3 hlen2 hblk hA2 hA3 hi0 hz1 HR HA
      by_cases hz : o + k = 64
      · have hz2 : ((N : Int) + (k : Int)) % 64 = 0 := by have := HO.out; omega
        have hz3 : Int.tmod ((N : Int) + (k : Int)) 64 = 0 := by rw [Int.tmod_eq_emod_of_nonneg (by omega)]; exact hz2
        have HZ := Aside0.mk hz
        clear hz r1 r2 u1 u2 u3
        go_wp2_with (first
          | (refine copy_ev rfl (.tmp 16) (.tmp 17) 53 53 rfl 5 Try.underlying53 (by kernel_rfl) g (8 + o) (64 - o) (64 - o) ad m c' rfl rfl _ 84 HWD.out (nums .u8 ((l.drop i).take k)) ?cn HSRC.out ?cf ?c1 k ?ck ?_; (case cn => exact (by rw [nums_length, HXL.out]; exact HKK.out.symm)); (case cf => exact HFIT.out); (case c1 => exact HONE.out); (case ck => exact (by rw [nums_length, HXL.out])); intro w5 BK5 HK5; have hb5 := BK5.out; rw [splice_strm _ _ _ _ _ HFT2.out] at hb5; have BK6 := Aside0.mk hb5; have q1 := strm_n HWL.out hb5; have q2 : w5.frozen? ⟨g, 72, none⟩ = false := blk_frozen hb5 72; clear BK5 hb5)
          | (go_at_call 40; (with_reducible refine (block_any g _ (Sh.blocks_ok _ _) (splice wait o ((l.drop i).take k)) HWL.out HWB.out _ _ (strm_setn HWL.out BK6.out _)).mono ?_); rintro e w6 ⟨rfl, hb6, hk6⟩; have HB6 := Aside0.mk hb6; have HK6 := Aside0.mk hk6; clear hb6 hk6))
        go_roundw
        case rel =>
          refine ⟨i + k, m - k, c' - k, A2, rfl, ⟨by have := HI.out; omega⟩, HR2, HAN, ⟨⟨_, HWL.out, HWB.out, ?_, ?_⟩⟩, ⟨?_⟩⟩
          · have h := HB6.out
            have ho := HO.out
            have hz := HZ.out
            rw [HL2.out]
            have e1 : (N + k) / 64 = N / 64 + 1 := by omega
            have e2 : splice wait o ((l.drop i).take k) = ((bs ++ l.take (i + k)).drop (64 * (N / 64))).take 64 := by
              have hT := HWT.out
              rw [hz] at hT
              rw [← hT, List.take_take]
              exact (List.take_of_length_le (by rw [HWL.out]; decide)).symm
            rw [e1, Sh.blocks, HBL.out, ← e2]
            exact h
          · have ho := HO.out
            have hz := HZ.out
            rw [HL2.out, show (N + k) % 64 = 0 by omega, List.take_zero, List.drop_eq_nil_of_le (by rw [HL2.out]; omega)]
          · exact kg_trans (kg_trans (kg_trans HKD.out HK5.out) (kg_set _ _ _)) HK6.out
        case measure =>
          simp [lenOf]; omega
      · have hz2 : ((N : Int) + (k : Int)) % 64 = ((o + k : Nat) : Int) := by have := HO.out; have := HKO.out; omega
        have hz3 : Int.tmod ((N : Int) + (k : Int)) 64 = ((o + k : Nat) : Int) := by rw [Int.tmod_eq_emod_of_nonneg (by omega)]; exact hz2
        obtain ⟨ok, hok⟩ : ∃ ok, o + k = ok := ⟨_, rfl⟩
        rw [hok] at hz2 hz3 hz
        have hne : ((ok : Int) == 0) = false := by rw [beq_eq_false_iff_ne]; omega
        have hne2 : ((ok : Int) = 0) = False := eq_false (by omega)
        have HOK := Aside0.mk hok
        have HZ := Aside0.mk hz
        clear hz hok r1 r2 u1 u2 u3
        go_wp2_with (first
          | (refine copy_ev rfl (.tmp 16) (.tmp 17) 53 53 rfl 5 Try.underlying53 (by kernel_rfl) g (8 + o) (64 - o) (64 - o) ad m c' rfl rfl _ 84 HWD.out (nums .u8 ((l.drop i).take k)) ?cn HSRC.out ?cf ?c1 k ?ck ?_; (case cn => exact (by rw [nums_length, HXL.out]; exact HKK.out.symm)); (case cf => exact HFIT.out); (case c1 => exact HONE.out); (case ck => exact (by rw [nums_length, HXL.out])); intro w5 BK5 HK5; have hb5 := BK5.out; rw [splice_strm _ _ _ _ _ HFT2.out] at hb5; have BK6 := Aside0.mk hb5; have q1 := strm_n HWL.out hb5; have q2 : w5.frozen? ⟨g, 72, none⟩ = false := blk_frozen hb5 72; clear BK5 hb5)
          | fail)
        go_roundw
        case rel =>
          refine ⟨i + k, m - k, c' - k, A2, rfl, ⟨by have := HI.out; omega⟩, HR2, HAN, ⟨⟨_, HWL.out, HWB.out, ?_, ?_⟩⟩, ⟨?_⟩⟩
          · have h := strm_setn HWL.out BK6.out (((N + k : Nat)) : Int)
            have ho := HO.out
            have hz := HZ.out
            have hok := HOK.out
            have hko := HKO.out
            rw [HL2.out]
            have e1 : (N + k) / 64 = N / 64 := by omega
            rw [e1, HBL.out]
            exact h
          · have ho := HO.out
            have hz := HZ.out
            have hok := HOK.out
            have hko := HKO.out
            have e1 : (N + k) / 64 = N / 64 := by omega
            rw [HL2.out, show (N + k) % 64 = o + k by omega, e1]
            exact HWT.out
          · exact kg_trans (kg_trans HKD.out HK5.out) (kg_set _ _ _)
        case measure =>
          simp [lenOf]; omega
    · have c0 : decide ((0 : Int) < (m : Int)) = false := decide_eq_false (by omega)
      have hi : i = l.length := by have := HI.out; omega
      have HF : Aside0 (Str wr g (bs ++ l)) := ⟨by have h := HS.out; rw [hi, List.take_length] at h; exact h⟩
      clear HS hi
      go_wp2_with fail
      go_end0
      exact ⟨rfl, HF.out, HK.out⟩

end Go.Proofs.Ytmokngiokdffdaa.P
