/-
  mask.Many, the law's all, mask.Of: what each answers, and that nothing that lay has turned.
-/
import Derived.Test.YtmokngiokdffdaaDoorHb
import Derived.Maps.AppendAt
import Derived.RangeFuncBox
import Derived.Test.YtmokngiokdffdaaDoorWMore
namespace Go.Proofs.YtmokngiokdffdaaDoor
open Go.RowKit Go.Shelf Go.Proofs.YtmokngiokdffdaaDoorW.PrintWords
attribute [local go_sem] Oper.semAt_some
namespace P
open Ma

theorem len_key (k : Nat) (h : k < 64) : wrap64 ((k : Int) + 1) = ((k + 1 : Nat) : Int) := by unfold wrap64; omega

set_option maxRecDepth 100000 in
set_option maxHeartbeats 2000000 in
theorem Many_in (F : Fence) (n : Nat) (hF : Wide F) (hn : 3 ≤ n) (m : Nat) (hm : m < 2 ^ 64) (w : World) (hT : TabOK w) :
    CallsIn F n Tryd.prog 12 #[.int .u64 (m : Int)] w fun e W' => e = .returned (.int .i64 ((bitsL m).length : Int)) ∧ Below w.heap.size w W' := by
  have h1 : 1 ≤ n := by omega
  have hro := hF.round
  have h11 := hF.fn 11
  have h12 := hF.fn 12
  have h43 := hF.fn 43
  have hlen := bitsL_length m
  refine callsIn_of_wp_marks Tryd.func12 rfl h12 ?_ hro
  simp only [Tryd.ntmps12, List.size_toArray, List.length_cons, List.length_nil, Nat.reduceAdd, Nat.reduceSub, Array.replicate_succ, Array.replicate_zero, List.push_toArray, List.append_toArray, List.nil_append, List.cons_append]
  gi_wp2_with (gi_at_call 11; refine (hF.calls _ _ _ _ _ (All_any _ _)).mono ?_; rintro e w' ⟨rfl, rfl⟩)
  have hs := cell_new_l w (.int .i64 0) 3
  have hb := cell_new_l (w.alloc (.cells #[.int .i64 0] 3)) (.int .u64 (m : Int)) 22
  rw [World.size_alloc] at hb
  have hB0 : Below w.heap.size w ((w.alloc (.cells #[.int .i64 0] 3)).alloc (.cells #[.int .u64 (m : Int)] 22)) := ((Below.refl _ w).alloc (Nat.le_refl _) _).alloc (by simp) _
  have hTB := hT.size
  refine wpIn_rangeFunc_ownF hro h1 (gf := 43) (lb := #[.pointer (some ⟨w.heap.size + 1, 0, none⟩)]) rfl h43 (enters_of Tryd.func43 (by kernel_rfl) rfl)
    (all_stops F (n - 1) hF (by omega) (w.heap.size + 1) w.heap.size m hm hTB _ (by simp) hb.1 (hT.below' hB0)) belowK_t (belowK_b (by simp; omega)) (Below.refl _ _) (fun _ => rfl)
    (fun pre W => (W.cell? ⟨w.heap.size, 0, none⟩ = some (.int .i64 (pre.length : Int)) ∧ W.frozen? ⟨w.heap.size, 0, none⟩ = false) ∧ Below w.heap.size w W)
    (fun _ _ _ => False)
    (OwnFrom.and (Own.from (fun s A B row hs hg hr => ⟨cell_kept hs.1 hg hr, (frozen_kept hs.1 hg hr).trans hs.2⟩) _) (ownFrom_below (Nat.le_refl _) (by simp; omega)))
    (fun _ _ _ _ _ hs _ _ => hs)
    ⟨⟨cell_alloc_l _ hs.1, frozen_alloc_l _ hs.1 hs.2⟩, hB0⟩
    (fun x => { tmps := #[.int .u64 (m : Int), undef, .pointer (some ⟨w.heap.size, 0, none⟩), .int .u64 (m : Int), .func (.func 43) #[] #[.pointer (some ⟨w.heap.size + 1, 0, none⟩)], .int .i64 (x : Int), undef, undef, undef], defers := [] }) ?assign ?body ?done ?stop
  case assign =>
    intro l x W K hK
    gi_wp2
    simpa using hK
  case body =>
    rintro l pre x W ⟨⟨hc, hf⟩, hB⟩ hl
    have hk := len_key pre.length (by omega)
    have Hk := Lib.hid hk
    clear hk
    gi_wp2
    exact ⟨KeepsOthers.setCell _ _ _, (Below.refl w.heap.size W).setCell (p := ⟨w.heap.size, 0, none⟩) (Nat.le_refl _) _, ⟨by rw [List.length_append]; exact World.cell?_setCell_same' _ _ _ (by rw [hc]; rfl), by rw [World.frozen?_setCell]; exact hf⟩, hB.setCell (p := ⟨w.heap.size, 0, none⟩) (Nat.le_refl _) _⟩
  case done =>
    rintro D ys W hD rfl ⟨⟨hc, hf⟩, hB⟩ hK
    gi_wp2
    have hK2 := (KeepsOthers.setCell W ⟨w.heap.size, 0, none⟩ (.int .i64 ((bitsL m).length : Int))).same D _ hK rfl
    have hc2 : (W.setCell ⟨w.heap.size, 0, none⟩ (.int .i64 ((bitsL m).length : Int))).cell? ⟨w.heap.size, 0, none⟩ = some (.int .i64 ((bitsL m).length : Int)) := World.cell?_setCell_same' _ _ _ (by rw [hc]; rfl)
    have hc3 := cell_kept hc2 (grownBy_putObj' _ D (.deferred none)) (fun r e => by cases e; exact ⟨_, hK2, rfl⟩)
    refine ⟨by simp, .inl ⟨_, _, rfl, run_takeDeferred hK2, ?_⟩⟩
    refine ⟨.int .i64 ((bitsL m).length : Int), ?_, rfl, ?_⟩
    · simp [results, Tryd.results12, go_sem, hc3]
    · exact (hB.setCell (p := ⟨w.heap.size, 0, none⟩) (Nat.le_refl _) _).trans (belowK_b (w := w) (Nat.le_refl _) _ D _ _ (by simp at hD; omega) hK2 rfl rfl)
  case stop =>
    rintro D c pre W _ _ h _
    exact h.elim

/-- What mask.Many answers. -/
def mask_Many.f (a0 : Int) : Option (Int) := if 0 ≤ a0 ∧ a0 < 18446744073709551616 then some ((bitsL a0.toNat).length : Int) else none
theorem mask_Many.calls (a0 : Int) (r : Int) (w : World) (h : mask_Many.f a0 = some r) (hT : TabOK w) :
    Calls Tryd.prog 12 #[.int .u64 a0] w fun e w' => e = .returned (.int .i64 r) ∧ Below w.heap.size w w' := by
  unfold mask_Many.f at h
  split at h
  · rename_i hb
    obtain ⟨x, rfl⟩ := Int.eq_ofNat_of_zero_le hb.1
    obtain rfl := Option.some.inj h
    exact (callsIn_wide (n := 3)).1 (Many_in Fence.wide 3 wide_wide (by omega) x (by have := hb.2; omega) w hT)
  · cases h

/-- What 'all' answers: the numbers, rising. -/
def ints (l : List Nat) : List Int := l.map fun x : Nat => (x : Int)
theorem ints_length (l : List Nat) : (ints l).length = l.length := by simp [ints]
theorem ints_snoc (l : List Nat) (x : Nat) : ints (l ++ [x]) = ints l ++ [(x : Int)] := by simp [ints]

theorem info3 : (Tryd.prog.info? 3).map (fun i => (i.zero, i.size, i.bytes)) = some (some (.int .i64 0), 1, 8) := by kernel_rfl

set_option maxRecDepth 100000 in
set_option maxHeartbeats 2000000 in
theorem all_in (F : Fence) (n : Nat) (hF : Wide F) (hn : 3 ≤ n) (m : Nat) (hm : m < 2 ^ 64) (w : World) (hT : TabOK w) :
    CallsIn F n Tryd.prog 14 #[.int .u64 (m : Int)] w fun e W' => ∃ v, e = .returned v ∧ W'.ownsRow w.heap.size 3 1 v (bitsL m).length ((ints (bitsL m)).map (Value.int .i64)) ∧ Below w.heap.size w W' := by
  have h1 : 1 ≤ n := by omega
  have hro := hF.round
  have h11 := hF.fn 11
  have h14 := hF.fn 14
  have h43 := hF.fn 43
  have hlen := bitsL_length m
  obtain ⟨i0, hi, hz0, hz1, hz2⟩ := info_parts info3
  refine callsIn_of_wp_marks Tryd.func14 rfl h14 ?_ hro
  simp only [Tryd.ntmps14, List.size_toArray, List.length_cons, List.length_nil, Nat.reduceAdd, Nat.reduceSub, Array.replicate_succ, Array.replicate_zero, List.push_toArray, List.append_toArray, List.nil_append, List.cons_append]
  have hnf : ∀ (v : Value) (W : World), (binOp .eql 24 (.func (.func 43) #[] #[v]) .nilFunc).run Tryd.prog W = .ok (.bool false) W := fun v W => by rfl
  gi_wp2_with (gi_at_call 11; refine (hF.calls _ _ _ _ _ (All_any _ _)).mono ?_; rintro e w' ⟨rfl, rfl⟩)
  have hTB := hT.size
  have bO := Boxed.new w 29 (.slice none 0 0)
  have bN := Boxed.new (w.alloc (.cells #[.slice none 0 0] 29)) 22 (.int .u64 (m : Int))
  rw [World.size_alloc] at bN
  have hB0 : Below w.heap.size w ((w.alloc (.cells #[.slice none 0 0] 29)).alloc (.cells #[.int .u64 (m : Int)] 22)) := ((Below.refl _ w).alloc (Nat.le_refl _) _).alloc (by simp) _
  refine wpIn_rangeFunc_ownG hro h1 (gf := 43) (lb := #[.pointer (some ⟨w.heap.size + 1, 0, none⟩)]) rfl h43 (enters_of Tryd.func43 (by kernel_rfl) rfl)
    (all_stops F (n - 1) hF (by omega) (w.heap.size + 1) w.heap.size m hm hTB _ (by simp) bN.cell (hT.below' hB0)) belowK_t (belowK_b (by simp; omega)) (Below.refl _ _) (fun _ => rfl)
    (fun pre W => (∃ v, Boxed W w.heap.size 29 v ∧ W.ownsRow w.heap.size 3 1 v pre.length ((ints pre).map (Value.int .i64)) ∧ True) ∧ Below w.heap.size w W)
    (fun _ _ _ => False)
    (OwnFrom.and (Own.from (holdsRow_own w.heap.size w.heap.size 29 3 1 (fun pre : List Nat => pre.length) (fun pre => (ints pre).map (Value.int .i64)) (fun _ _ => True)) _) (ownFrom_below (Nat.le_refl _) (by simp; omega)))
    (fun _ _ _ _ _ hs _ _ => hs)
    ⟨⟨_, bO.alloc _, World.ownsRow_nil _ _ _ _, trivial⟩, hB0⟩
    (fun x => { tmps := #[.int .u64 (m : Int), undef, .slice none 0 0, .pointer (some ⟨w.heap.size, 0, none⟩), .func (.func 43) #[] #[.pointer (some ⟨w.heap.size + 1, 0, none⟩)], .int .i64 (x : Int), .int .u64 (m : Int), .func (.func 43) #[] #[.pointer (some ⟨w.heap.size + 1, 0, none⟩)], .func (.func 43) #[] #[.pointer (some ⟨w.heap.size + 1, 0, none⟩)], .bool false, .func (.func 43) #[] #[.pointer (some ⟨w.heap.size + 1, 0, none⟩)], .int .i64 (x : Int), undef, undef, undef, undef, undef], defers := [] }) ?assign ?body ?done ?stop
  case assign =>
    intro l x W K hK
    gi_wp2
    exact hK
  case body =>
    rintro l pre x W ⟨⟨v, hv, hrow, -⟩, hB⟩ hlt
    have hc := hv.cell
    gi_wp2_with (gi_at_builtin; refine wpListIn_append_own _ rfl _ _ 29 rfl w.heap.size 3 i0 (.int .i64 0) 1 8 Tryd.underlying29 hi hz0 hz1 hz2 rfl (by decide) _ _ _ rfl (hrow.alloc _) ⟨W.heap.size, 0, none⟩ 1 1 [.int .i64 (x : Int)] rfl rfl (cell_one_new _ _ _) (by simp [Value.oneCell']) (by unfold maxLen; omega) (by omega) (by have := hB.size; simp; omega) ?_; intro v' w1 hown' hgrow _; obtain ⟨g', cap', rfl⟩ := ownsRow_succ hown'; obtain ⟨hv1, hv2, hr2, hk2, hb2⟩ := hv.appended (by decide) hrow hB.size (Nat.le_refl _) hown' hgrow; have hc1 := hv1.cell; have hf1 := hv1.frozen)
    exact ⟨hk2.from _, hb2, ⟨_, hv2, by simpa [ints] using hr2, trivial⟩, hB.trans hb2⟩
  case done =>
    rintro D ys W hD rfl ⟨⟨v, hv, hrow, -⟩, hB⟩ hK
    have hc := hv.cell
    gi_wp2
    refine ⟨by simp, .inl ⟨_, _, rfl, run_takeDeferred hK, ?_⟩⟩
    exact ⟨_, results_tmp rfl _ _ _, v, rfl, ownsRow_putObj hrow _ hK rfl, hB.trans (belowK_b (w := w) (Nat.le_refl _) W D _ _ (by simp at hD; omega) hK rfl rfl)⟩
  case stop =>
    rintro D c pre W _ _ h _
    exact h.elim

end P
end Go.Proofs.YtmokngiokdffdaaDoor
