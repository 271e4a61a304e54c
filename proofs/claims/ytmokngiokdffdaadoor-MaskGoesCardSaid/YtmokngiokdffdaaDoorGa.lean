/-
  MaskGoes: the loop that leaves early, and the law's last line.
-/
import Derived.Test.YtmokngiokdffdaaDoorHd
import Derived.Test.YtmokngiokdffdaaDoorMb
import Derived.Test.YtmokngiokdffdaaDoorMr
import Derived.Deep.RegionHeld3
namespace Go.Proofs.YtmokngiokdffdaaDoor
open Go.RowKit Go.Shelf Go.Proofs.YtmokngiokdffdaaDoorW.PrintWords Go.Proofs.YtmokngiokdffdaaDoorW.PrintLast Go.Proofs.YtmokngiokdffdaaDoorW.PrintMore
attribute [local go_sem] Oper.semAt_some
set_option linter.unusedVariables false
attribute [local go_sem] max2_int min2_int
namespace P
open Ma

theorem mod65 (a : Int) : wrap64 (Int.tmod (IntKind.u64.wrap a) 65) = IntKind.u64.wrap a % 65 := by
  have h : IntKind.u64.wrap a = a % 18446744073709551616 := IntKind.wrap_u64 a
  rw [h, Int.tmod_eq_emod_of_nonneg (by omega)]
  unfold wrap64; omega

set_option maxRecDepth 100000 in
set_option maxHeartbeats 4000000 in
theorem Goes_in (m : Nat) (hm : m < 2 ^ 64) (lv : Int) (w : World) (hT : TabOK w) :
    CallsIn Fence.wide 3 Tryd.prog 3 #[.int .u64 (m : Int), .int .i64 lv] w fun e W' => e = .returned (.bool true) ∧ Below w.heap.size w W' := by
  have hro : Fence.wide.round = none := rfl
  have hF := wide_wide
  have hlen := bitsL_length m
  refine callsIn_of_wp_marks Tryd.func3 rfl trivial ?_ hro
  simp only [Tryd.ntmps3, List.size_toArray, List.length_cons, List.length_nil, Nat.reduceAdd, Nat.reduceSub, Array.replicate_succ, Array.replicate_zero, List.push_toArray, List.append_toArray, List.nil_append, List.cons_append]
  have hnf : ∀ (v : Value) (W : World), (binOp .eql 24 (.func (.func 43) #[] #[v]) .nilFunc).run Tryd.prog W = .ok (.bool false) W := fun v W => by rfl
  obtain ⟨c, hc⟩ : ∃ c : Nat, wrap64 (Int.tmod (IntKind.u64.wrap lv) 65) = (c : Int) := ⟨(wrap64 (Int.tmod (IntKind.u64.wrap lv) 65)).toNat, by rw [mod65]; have := IntKind.wrap_u64 lv; omega⟩
  have HC := Lib.hid hc
  clear hc
  gi_wp2_with (refine ⟨trivial, ?_⟩; gi_at_call 11; refine (hF.calls _ _ _ _ _ (All_any _ _)).mono ?_; rintro e w' ⟨rfl, rfl⟩)
  rename_i Q' K hK
  rw [HC.out]
  have hB0 : Below w.heap.size w (((w.alloc (Obj.cells #[Value.int IntKind.u64 (m : Int)] 22)).alloc (Obj.cells #[Value.int IntKind.i64 (c : Int)] 3)).alloc (Obj.cells #[Value.int IntKind.i64 0] 3)) :=
    (((Below.refl _ w).alloc (Nat.le_refl _) _).alloc (by simp) _).alloc (by simp; omega) _
  have tail : ∀ (D : Nat) (W : World), w.heap.size + 3 ≤ D → W.cell? ⟨w.heap.size + 1, 0, none⟩ = some (.int .i64 (c : Int)) → W.cell? ⟨w.heap.size + 1 + 1, 0, none⟩ = some (.int .i64 (mn (c : Int) ((bitsL m).length : Int))) →
      Below w.heap.size w W → W.heap[D]? = some (.deferred (some [])) →
      K { tmps := #[Value.int IntKind.u64 ↑m, Value.int IntKind.i64 lv, undef, undef, Value.bool false,
          Value.func (Fn.func 43) #[] #[Value.pointer (some { block := w.heap.size, off := 0 })],
          Value.pointer (some { block := w.heap.size + 1, off := 0 }),
          Value.pointer (some { block := w.heap.size + 1 + 1, off := 0 }), Value.int IntKind.u64 ↑m,
          Value.func (Fn.func 43) #[] #[Value.pointer (some { block := w.heap.size, off := 0 })],
          Value.func (Fn.func 43) #[] #[Value.pointer (some { block := w.heap.size, off := 0 })], Value.bool false,
          Value.int IntKind.i64 lv, Value.int IntKind.u64 (IntKind.u64.wrap lv),
          Value.int IntKind.u64 ((IntKind.u64.wrap lv).tmod 65),
          Value.int IntKind.i64 (c : Int),
          Value.func (Fn.func 43) #[] #[Value.pointer (some { block := w.heap.size, off := 0 })], undef, undef, undef,
          undef, undef, undef, undef, undef, undef, undef, undef, undef, undef, undef, undef, undef, undef, undef,
          undef, undef, undef, undef, undef, undef, undef, undef, undef, undef, undef], defers := [{ target := Target.collected D, args := #[] }] } W := by
    intro D W hD hcn hck hBW hDK
    refine hK _ _ (wpIn_wide.2 ?_)
    clear hK hnf HC hB0
    have hMany : mask_Many.f (m : Int) = some ((bitsL m).length : Int) := by unfold mask_Many.f; rw [if_pos (by omega)]; rfl
    have hAll : raddlelaw08_all.f (m : Int) = some (ints (bitsL m)) := by unfold raddlelaw08_all.f; rw [if_pos (by omega)]; rfl
    have hList : raddleref08_List.f 200 (m : Int) = some (ints (bitsL m)) := RList_eq 200 m hm (by omega)
    have hInts : raddleref01_Ints.f 200 (ints (bitsL m)) (ints (bitsL m)) = some true := RInts_eq 200 _ (by rw [ints_length]; omega) (by rw [ints_length]; omega)
    generalize hL : ints (bitsL m) = L at hAll hList hInts
    generalize hn2 : ((bitsL m).length : Int) = n2 at hMany hck
    generalize hcc : (c : Int) = cc at hcn hck
    clear hL
    obtain ⟨kk, hkk⟩ : ∃ kk : Int, mn cc n2 = kk := ⟨_, rfl⟩
    rw [hkk] at hck
    have HKK : Hid (mn cc n2 = kk) := Lib.hid hkk
    clear hkk
    have hT1 := hT.below' hBW
    have HB := Aside0.mk hBW
    have HMany := Aside0.mk hMany
    have HAll := Aside0.mk hAll
    have HList := Aside0.mk hList
    have HInts := Aside0.mk hInts
    have HL := Aside0.mk lives08
    clear hMany hAll hList hInts hn2 hcc hlen
    have hmin : ∀ (W : World), (Builtin.min_ #[3, 3] 3 #[.int .i64 cc, .int .i64 n2]).run Tryd.prog W = .ok (.int .i64 kk) W := by
      intro W; rw [min_two, min2_int, ← HKK.out]; rfl
    have tok1 := Aside0.mk trivial
    go_wp2_with fail
    go_region_held3 (fun w' => w'.cell? ⟨w.heap.size + 1, 0, none⟩ = some (.int .i64 cc) ∧ w'.cell? ⟨w.heap.size + 1 + 1, 0, none⟩ = some (.int .i64 kk))
      (first | exact ⟨hcn, hck⟩ | go_keep)
      (first
        | (go_at_call 12; (try clear hbl); refine (mask_Many.calls _ _ _ HMany.out (by first | exact hT1 | exact hT1.drew)).mono ?_; rintro e w1 ⟨rfl, hbl⟩; have hq1 := pw_cell_below hbl hcn; have hq2 := pw_cell_below hbl hck; have hq3 := (hbl.block D (Array.getElem?_eq_some_iff.1 hDK).1).trans hDK; clear hcn hck hDK; have hcn := hq1; have hck := hq2; have hDK := hq3; clear hq1 hq2 hq3; have HB' := Aside0.mk (below_step (by first | exact HB.out | exact below_drew HB.out) hbl); clear HB; have HB := HB'; clear HB'; have hT2 := hT.below' HB.out; clear hT1; have hT1 := hT2; clear hT2)
        | (go_at_call 14; have _t := tok1; (try clear hbl); refine (raddlelaw08_all.calls _ _ _ HAll.out (by first | exact hT1 | exact hT1.drew)).mono ?_; rintro e w2 ⟨v1, rfl, hR1, hbl⟩; obtain ⟨A1, c1, rfl, hc1, hC1⟩ := Kd.R_reads hR1; have HC1 := Aside0.mk hC1; have HD1 := Aside0.mk hc1; clear hR1 hC1 hc1 _t tok1; have hq1 := pw_cell_below hbl hcn; have hq2 := pw_cell_below hbl hck; have hq3 := (hbl.block D (Array.getElem?_eq_some_iff.1 hDK).1).trans hDK; clear hcn hck hDK; have hcn := hq1; have hck := hq2; have hDK := hq3; clear hq1 hq2 hq3; have HB' := Aside0.mk (below_step (by first | exact HB.out | exact below_drew HB.out) hbl); clear HB; have HB := HB'; clear HB'; have hT2 := hT.below' HB.out; clear hT1; have hT1 := hT2; clear hT2)
        | (go_at_call 15; refine (raddleref08_List.calls 200 _ _ _ HList.out).mono ?_; rintro e w3 ⟨v2, rfl, hR2, hb2⟩; obtain ⟨A2, c2, rfl, hc2, hC2⟩ := Kd.R_reads hR2; have HC2 := Aside0.mk hC2; have HD2 := Aside0.mk hc2; have HC1' := Aside0.mk (Kd.C_below HC1.out hb2); clear HC1 hbl; have HC1 := HC1'; clear HC1'; have hbl := hb2; clear hb2 hR2 hC2 hc2; have tok2 := Aside0.mk trivial; have hq1 := pw_cell_below hbl hcn; have hq2 := pw_cell_below hbl hck; have hq3 := (hbl.block D (Array.getElem?_eq_some_iff.1 hDK).1).trans hDK; clear hcn hck hDK; have hcn := hq1; have hck := hq2; have hDK := hq3; clear hq1 hq2 hq3; have HB' := Aside0.mk (below_step (by first | exact HB.out | exact below_drew HB.out) hbl); clear HB; have HB := HB'; clear HB'; have hT2 := hT.below' HB.out; clear hT1; have hT1 := hT2; clear hT2)
        | (go_at_call 13; refine (raddleref01_Ints.calls 200 _ _ _ _ _ _ true _ HC1.out HD1.out HC2.out HD2.out HInts.out).mono ?_; rintro e w4 ⟨rfl, ⟨nd, rfl⟩⟩)
        | (go_at_call 14; have _t := tok2; clear hbl HC1 HD1 HC2 HD2; refine (raddlelaw08_all.calls _ _ _ HAll.out (by first | exact hT1.drewN _ | exact hT1)).mono ?_; rintro e w5 ⟨v3, rfl, hR1, hbl⟩; obtain ⟨A1, c1, rfl, hc1, hC1⟩ := Kd.R_reads hR1; have HC1 := Aside0.mk hC1; have HD1 := Aside0.mk hc1; clear hR1 hC1 hc1 _t tok2; have hq1 := pw_cell_below hbl hcn; have hq2 := pw_cell_below hbl hck; have hq3 := (hbl.block D (Array.getElem?_eq_some_iff.1 hDK).1).trans hDK; clear hcn hck hDK; have hcn := hq1; have hck := hq2; have hDK := hq3; clear hq1 hq2 hq3; have HB' := Aside0.mk (below_step (pw_below_drewN HB.out _) hbl); clear HB; have HB := HB'; clear HB'; have hT2 := hT.below' HB.out; clear hT1; have hT1 := hT2; clear hT2; have tok3 := Aside0.mk trivial)
        | (go_at_call 14; have _t := tok3; refine (raddlelaw08_all.calls _ _ _ HAll.out (by first | exact hT1.drewN _ | exact hT1)).mono ?_; rintro e w6 ⟨v4, rfl, hR2, hb2⟩; obtain ⟨A2, c2, rfl, hc2, hC2⟩ := Kd.R_reads hR2; have HC2 := Aside0.mk hC2; have HD2 := Aside0.mk hc2; have HC1' := Aside0.mk (Kd.C_below HC1.out hb2); clear HC1 hbl; have HC1 := HC1'; clear HC1'; have hbl := hb2; clear hb2 hR2 hC2 hc2 _t tok3; have hq1 := pw_cell_below hbl hcn; have hq2 := pw_cell_below hbl hck; have hq3 := (hbl.block D (Array.getElem?_eq_some_iff.1 hDK).1).trans hDK; clear hcn hck hDK; have hcn := hq1; have hck := hq2; have hDK := hq3; clear hq1 hq2 hq3; have HB' := Aside0.mk (below_step (by first | exact HB.out | exact below_drew HB.out) hbl); clear HB; have HB := HB'; clear HB'; have hT2 := hT.below' HB.out; clear hT1; have hT1 := hT2; clear hT2)
        | (go_at_call 16; clear hbl; refine (raddlelaw08_lives.calls true _ HL.out (by first | exact hT1.drewN _ | exact hT1)).mono ?_; rintro e w7 ⟨rfl, hbl⟩; have hq1 := pw_cell_below hbl hcn; have hq2 := pw_cell_below hbl hck; have hq3 := (hbl.block D (Array.getElem?_eq_some_iff.1 hDK).1).trans hDK; clear hcn hck hDK; have hcn := hq1; have hck := hq2; have hDK := hq3; clear hq1 hq2 hq3; have HB' := Aside0.mk (below_step (pw_below_drewN HB.out _) hbl); clear HB; have HB := HB'; clear HB'))
    go_wp2
    refine ⟨by simp, .inl ⟨_, _, rfl, run_takeDeferred hDK, ?_⟩⟩
    exact ⟨_, results_tmp rfl _ _ _, rfl, HB.out.trans (belowK_b (w := w) (Nat.le_refl _) _ D _ _ (by omega) hDK rfl rfl)⟩
  have hTB := hT.size
  have b0 := cell_new_l w (.int .u64 (m : Int)) 22
  have b1 := cell_new_l (w.alloc (.cells #[.int .u64 (m : Int)] 22)) (.int .i64 (c : Int)) 3
  have b2 := cell_new_l ((w.alloc (.cells #[.int .u64 (m : Int)] 22)).alloc (.cells #[.int .i64 (c : Int)] 3)) (.int .i64 0) 3
  rw [World.size_alloc] at b1
  rw [World.size_alloc, World.size_alloc] at b2
  refine wpIn_rangeFunc_ownF hro (by omega) (gf := 43) (lb := #[.pointer (some ⟨w.heap.size, 0, none⟩)]) rfl trivial (enters_of Tryd.func43 (by kernel_rfl) rfl)
    (all_stops Fence.wide 2 wide_wide (by omega) w.heap.size w.heap.size m hm hTB _ (by simp; omega) (cell_alloc_l _ (cell_alloc_l _ b0.1)) (hT.below' hB0)) belowK_t (belowK_b (by simp; omega)) (Below.refl _ _) (fun _ => rfl)
    (fun pre W => ((W.cell? ⟨w.heap.size + 1, 0, none⟩ = some (.int .i64 (c : Int)) ∧ W.frozen? ⟨w.heap.size + 1, 0, none⟩ = false) ∧ (W.cell? ⟨w.heap.size + 1 + 1, 0, none⟩ = some (.int .i64 (pre.length : Int)) ∧ W.frozen? ⟨w.heap.size + 1 + 1, 0, none⟩ = false) ∧ pre.length ≤ c) ∧ Below w.heap.size w W)
    (fun cd pre W => (cd = .exit 0 ∧ W.cell? ⟨w.heap.size + 1, 0, none⟩ = some (.int .i64 (c : Int)) ∧ W.cell? ⟨w.heap.size + 1 + 1, 0, none⟩ = some (.int .i64 (c : Int)) ∧ c < pre.length) ∧ Below w.heap.size w W)
    (OwnFrom.and (Own.from (fun s A B row hs hg hr => ⟨⟨cell_kept hs.1.1 hg hr, (frozen_kept hs.1.1 hg hr).trans hs.1.2⟩, ⟨cell_kept hs.2.1.1 hg hr, (frozen_kept hs.2.1.1 hg hr).trans hs.2.1.2⟩, hs.2.2⟩) _) (ownFrom_below (Nat.le_refl _) (by simp; omega)))
    (fun cd => OwnFrom.and (Own.from (fun s A B row hs hg hr => ⟨hs.1, cell_kept hs.2.1 hg hr, cell_kept hs.2.2.1 hg hr, hs.2.2.2⟩) _) (ownFrom_below (Nat.le_refl _) (by simp; omega)))
    ⟨⟨⟨cell_alloc_l _ b1.1, frozen_alloc_l _ b1.1 b1.2⟩, ⟨b2.1, b2.2⟩, Nat.zero_le _⟩, hB0⟩
    (fun x => { tmps := #[Value.int IntKind.u64 ↑m, Value.int IntKind.i64 lv, undef, undef, Value.bool false, Value.func (Fn.func 43) #[] #[Value.pointer (some { block := w.heap.size, off := 0 })], Value.pointer (some { block := w.heap.size + 1, off := 0 }), Value.pointer (some { block := w.heap.size + 1 + 1, off := 0 }), Value.int IntKind.u64 ↑m, Value.func (Fn.func 43) #[] #[Value.pointer (some { block := w.heap.size, off := 0 })], Value.func (Fn.func 43) #[] #[Value.pointer (some { block := w.heap.size, off := 0 })], Value.bool false, Value.int IntKind.i64 lv, Value.int IntKind.u64 (IntKind.u64.wrap lv), Value.int IntKind.u64 ((IntKind.u64.wrap lv).tmod 65), Value.int IntKind.i64 (c : Int), Value.func (Fn.func 43) #[] #[Value.pointer (some { block := w.heap.size, off := 0 })], .int .i64 (x : Int), undef, undef, undef, undef, undef, undef, undef, undef, undef, undef, undef, undef, undef, undef, undef, undef, undef, undef, undef, undef, undef, undef, undef, undef, undef, undef, undef, undef], defers := [] }) ?assign ?body ?done ?stop
  case assign =>
    intro l x W K2 hK2
    gi_wp2
    simpa using hK2
  case body =>
    rintro l pre x W ⟨⟨⟨hc1, hf1⟩, ⟨hc2, hf2⟩, hle⟩, hB⟩ hl
    clear tail hK
    by_cases he : pre.length = c
    · have ht : ((pre.length : Int) == (c : Int)) = true := by simp [he]
      have HE := Lib.hid he
      clear he
      gi_wp2
      exact ⟨KeepsOthers.refl _, ⟨rfl, hc1, by rw [← HE.out]; exact hc2, by rw [List.length_append, HE.out]; simp⟩, hB⟩
    · have ht : ((pre.length : Int) == (c : Int)) = false := by simp; omega
      have hlt : pre.length + 1 ≤ c := by omega
      have hk64 := len_key pre.length (by omega)
      have HK64 := Lib.hid hk64
      have HLT := Lib.hid hlt
      clear hk64 he hlt
      gi_wp2
      exact ⟨KeepsOthers.setCell _ _ _, (Below.refl w.heap.size W).setCell (p := ⟨w.heap.size + 1 + 1, 0, none⟩) (by simp; omega) _,
        ⟨⟨(World.cell?_setCell_other W ⟨w.heap.size + 1 + 1, 0, none⟩ ⟨w.heap.size + 1, 0, none⟩ _ (by simp)).trans hc1, by rw [World.frozen?_setCell]; exact hf1⟩, ⟨by rw [List.length_append]; exact World.cell?_setCell_same' _ _ _ (by rw [hc2]; rfl), by rw [World.frozen?_setCell]; exact hf2⟩, by rw [List.length_append]; exact HLT.out⟩,
        hB.setCell (p := ⟨w.heap.size + 1 + 1, 0, none⟩) (by simp; omega) _⟩
  case done =>
    rintro D ys W hD rfl ⟨⟨⟨hc1, hf1⟩, ⟨hc2, hf2⟩, hle⟩, hB⟩ hDK
    have hD' : w.heap.size + 3 ≤ D := by simp at hD; omega
    have e : mn (c : Int) ((bitsL m).length : Int) = ((bitsL m).length : Int) := by unfold mn; split <;> omega
    exact tail D W hD' hc1 (by rw [e]; exact hc2) hB hDK
  case stop =>
    rintro D cd pre W hD hpre ⟨⟨rfl, hc1, hc2, hlt⟩, hB⟩ hDK
    have hD' : w.heap.size + 3 ≤ D := by simp at hD; omega
    have hpl := List.IsPrefix.length_le hpre
    have e : mn (c : Int) ((bitsL m).length : Int) = (c : Int) := by unfold mn; split <;> omega
    have h := tail D W hD' hc1 (by rw [e]; exact hc2) hB hDK
    gi_wp2
    exact h

theorem MaskGoes_walk (a0 a1 : Int) (w : World) (w0 : (Lit.int .u64 a0).wf = true) (w1 : (Lit.int .i64 a1).wf = true) (hT : TabOK w) :
    Calls Tryd.prog 3 #[.int .u64 a0, .int .i64 a1] w fun e w' => e = .returned (.bool true) ∧ Below w.heap.size w w' := by
  obtain ⟨m, rfl, hm⟩ := u64_nat w0
  exact (callsIn_wide (n := 3)).1 (Goes_in m hm a1 w hT)

end P
end Go.Proofs.YtmokngiokdffdaaDoor
