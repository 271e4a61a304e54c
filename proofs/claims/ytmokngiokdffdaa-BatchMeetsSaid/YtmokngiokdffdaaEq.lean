/-
  '==' and '!=' on digests, tags and requests.
-/
import Derived.Test.YtmokngiokdffdaaPq
import Derived.ChangeKeysEq
import Derived.Laws.StructEq
namespace Go.Proofs.Ytmokngiokdffdaa.P
open Go.RowKit Go.Proofs.YtmokngiokdffdaaW.PrintWords Go.Proofs.YtmokngiokdffdaaW.PrintLast Go.Proofs.YtmokngiokdffdaaW.PrintMore
set_option linter.unusedVariables false

theorem eqItems_u8 {P : Program} (w : World) (d : Nat) (e : TypeId) (he : P.underlying e = some (.int .u8)) (hp : P.plainKey e = true) (xs ys : List Int) : ∀ is : List Nat, (∀ i ∈ is, i < xs.length ∧ i < ys.length) →
    (Op.eqItems (d + 1) e 1 (nums .u8 xs).toArray (nums .u8 ys).toArray is).run P w = .ok (is.all fun i => xs.getD i 0 == ys.getD i 0) w
  | [], _ => by simp [Op.eqItems]
  | i :: is, h => by
    have h1 := h i (by simp)
    have ih := eqItems_u8 w d e he hp xs ys is (fun j hj => h j (by simp [hj]))
    have px : (nums .u8 xs).toArray[i * 1]? = some (.int .u8 (xs.getD i 0)) := by simp [nums, h1.1, List.getD_eq_getElem?_getD]
    have py : (nums .u8 ys).toArray[i * 1]? = some (.int .u8 (ys.getD i 0)) := by simp [nums, h1.2, List.getD_eq_getElem?_getD]
    simp only [Op.eqItems, Sem.run_bind, run_part_plain w hp px, run_part_plain w hp py, Result.andThen_ok, run_equalIn_int w d e .u8 .u8 _ _ he, List.all_cons]
    cases hb : (xs.getD i 0 == ys.getD i 0)
    · simp
    · simp [ih]

theorem all_getD (xs ys : List Int) (n : Nat) (hx : xs.length = n) (hy : ys.length = n) : ((List.range n).all fun i => xs.getD i 0 == ys.getD i 0) = (xs == ys) := by
  rw [Bool.eq_iff_iff]
  simp only [List.all_eq_true, List.mem_range, beq_iff_eq]
  constructor
  · intro h
    apply List.ext_getElem (by omega)
    intro i h1 h2
    have := h i (by omega)
    simpa [List.getD_eq_getElem?_getD, h1, h2] using this
  · rintro rfl i _; rfl

theorem equalIn_bytes {P : Program} (w : World) (d : Nat) (t e : TypeId) (n : Nat) {i : TypeInfo} (hu : P.underlying t = some (.array n e)) (hi : P.info? e = some i) (hc : P.cellsOf e = 1) (he : P.underlying e = some (.int .u8)) (hp : P.plainKey e = true)
    (xs ys : List Int) (hx : xs.length = n) (hy : ys.length = n) :
    (Op.equalIn (d + 2) t (.agg (nums .u8 xs).toArray) (.agg (nums .u8 ys).toArray)).run P w = .ok (xs == ys) w := by
  rw [show d + 2 = (d + 1) + 1 from rfl, run_equalIn_array w (d + 1) _ _ hu hi, hc, eqItems_u8 w d e he hp xs ys _ (fun i hi => by have := List.mem_range.1 hi; omega), all_getD xs ys n hx hy]

theorem cells5 : Try.prog.cellsOf 5 = 1 := by kernel_rfl
theorem plain5 : Try.prog.plainKey 5 = true := by kernel_rfl

theorem eql_dig (xs ys : List Int) (hx : xs.length = 32) (hy : ys.length = 32) (w : World) : (binOp .eql 29 (.agg (nums .u8 xs).toArray) (.agg (nums .u8 ys).toArray)).run Try.prog w = .ok (.bool (xs == ys)) w := by
  obtain ⟨i0, hi0, _⟩ := info_parts info5
  rw [run_eql_struct, equalIn_bytes w 9998 29 5 32 Try.underlying29 hi0 cells5 Try.underlying5 plain5 xs ys hx hy]
  rfl
theorem neq_dig (xs ys : List Int) (hx : xs.length = 32) (hy : ys.length = 32) (w : World) : (binOp .neq 29 (.agg (nums .u8 xs).toArray) (.agg (nums .u8 ys).toArray)).run Try.prog w = .ok (.bool (!(xs == ys))) w := by
  obtain ⟨i0, hi0, _⟩ := info_parts info5
  rw [run_neq_struct, equalIn_bytes w 9998 29 5 32 Try.underlying29 hi0 cells5 Try.underlying5 plain5 xs ys hx hy]
  rfl

/-- Are two requests the same? -/
def reqEq (r s : Req) : Bool := r.client == s.client && (r.num == s.num && (r.data.toList == s.data.toList && r.tag == s.tag))
theorem reqEq_refl (r : Req) : reqEq r r = true := by simp [reqEq]

theorem plain3 : Try.prog.plainKey 3 = true := by kernel_rfl
theorem plain9 : Try.prog.plainKey 9 = true := by kernel_rfl
theorem info50 : (Try.prog.info? 50).map (·.size) = some 16 := by kernel_rfl
theorem cells_0 (q : Req) : q.cells.toArray[0]? = some (.int .i64 q.client) := by unfold Req.cells; simp
theorem cells_1 (q : Req) : q.cells.toArray[1]? = some (.int .i64 q.num) := by unfold Req.cells; simp
theorem cells_2 (q : Req) : q.cells.toArray[2]? = some (.string q.data) := by unfold Req.cells; simp
theorem run_part_u8 {P : Program} (w : World) (t e : TypeId) (n : Nat) (hu : P.underlying t = some (.array n e)) (hi : (P.info? t).map (·.size) = some n) (xs : Array Value) (off : Nat) : (part t xs off).run P w = .ok (.agg (xs.extract off (off + n))) w := by
  obtain ⟨i, h1, h2⟩ := Option.map_eq_some_iff.1 hi
  simp [part, isAgg, run_underlying hu, sizeOf, typeInfo, h1, h2]
theorem cells_tag (q : Req) (hq : q.ok) : q.cells.toArray.extract 3 (3 + 16) = (nums .u8 q.tag).toArray := by
  unfold Req.cells
  have hl : (nums .u8 q.tag).length = 16 := by rw [nums_length]; exact hq.tag
  simp only [List.extract_toArray, List.extract, List.drop_succ_cons, List.drop_zero, Nat.add_sub_cancel_left]
  rw [List.take_of_length_le (by omega)]
theorem run_tag (q : Req) (hq : q.ok) (w : World) : (part 50 q.cells.toArray 3).run Try.prog w = .ok (.agg (nums .u8 q.tag).toArray) w := by
  rw [run_part_u8 w 50 5 16 Try.underlying50 info50, cells_tag q hq]
/-- One field. -/
theorem eqFields_one {P : Program} (w : World) (d : Nat) (xs ys : Array Value) (f : Field) (fs : List Field) (a b : Value) (r r2 : Bool) (hn : f.name ≠ "_") (ha : (part f.type xs f.offset).run P w = .ok a w) (hb : (part f.type ys f.offset).run P w = .ok b w)
    (hr : (Op.equalIn d f.type a b).run P w = .ok r w) (h2 : (Op.eqFields d xs ys fs).run P w = .ok r2 w) : (Op.eqFields d xs ys (f :: fs)).run P w = .ok (r && r2) w := by
  simp only [Op.eqFields, Sem.run_ite, if_pos hn, Sem.run_bind, ha, hb, hr, Result.andThen_ok]
  cases r
  · simp
  · simp [h2]
theorem eqFields_nil {P : Program} (w : World) (d : Nat) (xs ys : Array Value) : (Op.eqFields d xs ys []).run P w = .ok true w := by simp [Op.eqFields]
theorem eqFields_req (d : Nat) (f0 f1 f2 f3 : Field) (n0 : f0.name ≠ "_") (n1 : f1.name ≠ "_") (n2 : f2.name ≠ "_") (n3 : f3.name ≠ "_") (t0 : f0.type = 3) (t1 : f1.type = 3) (t2 : f2.type = 9) (t3 : f3.type = 50)
    (o0 : f0.offset = 0) (o1 : f1.offset = 1) (o2 : f2.offset = 2) (o3 : f3.offset = 3) (r s : Req) (hr : r.ok) (hs : s.ok) (w : World) :
    (Op.eqFields (d + 2) r.cells.toArray s.cells.toArray [f0, f1, f2, f3]).run Try.prog w = .ok (reqEq r s) w := by
  obtain ⟨i0, hi0, _⟩ := info_parts info5
  have e : reqEq r s = (r.client == s.client && (r.num == s.num && (r.data.toList == s.data.toList && (r.tag == s.tag && true)))) := by unfold reqEq; rw [Bool.and_true]
  rw [e]
  refine eqFields_one w _ _ _ f0 _ _ _ _ _ n0 (by rw [t0, o0]; exact run_part_plain w plain3 (cells_0 r)) (by rw [t0, o0]; exact run_part_plain w plain3 (cells_0 s)) (by rw [t0]; exact run_equalIn_int w (d + 1) 3 .i64 .i64 _ _ Try.underlying3) ?_
  refine eqFields_one w _ _ _ f1 _ _ _ _ _ n1 (by rw [t1, o1]; exact run_part_plain w plain3 (cells_1 r)) (by rw [t1, o1]; exact run_part_plain w plain3 (cells_1 s)) (by rw [t1]; exact run_equalIn_int w (d + 1) 3 .i64 .i64 _ _ Try.underlying3) ?_
  refine eqFields_one w _ _ _ f2 _ _ _ _ _ n2 (by rw [t2, o2]; exact run_part_plain w plain9 (cells_2 r)) (by rw [t2, o2]; exact run_part_plain w plain9 (cells_2 s)) (by rw [t2]; exact run_equalIn_string w (d + 1) 9 _ _ Try.underlying9) ?_
  refine eqFields_one w _ _ _ f3 _ _ _ _ _ n3 (by rw [t3, o3]; exact run_tag r hr w) (by rw [t3, o3]; exact run_tag s hs w) (by rw [t3]; exact equalIn_bytes w d 50 5 16 Try.underlying50 hi0 cells5 Try.underlying5 plain5 r.tag s.tag hr.tag hs.tag) ?_
  exact eqFields_nil w _ _ _

theorem struct52 : Try.prog.underlying 52 = some (.struct (Try.prog.fieldsOf 52)) := by kernel_rfl
theorem stood52 : Try.prog.stoodInHeld 52 = false := by kernel_rfl
theorem equalIn_req (d : Nat) (r s : Req) (hr : r.ok) (hs : s.ok) (w : World) : (Op.equalIn (d + 3) 52 (.agg r.cells.toArray) (.agg s.cells.toArray)).run Try.prog w = .ok (reqEq r s) w := by
  have hfl := struct52.symm.trans Try.underlying52
  simp only [Option.some.injEq, TypeDesc.struct.injEq] at hfl
  rw [show d + 3 = (d + 2) + 1 from rfl, run_equalIn_struct w (d + 2) 52 _ _ struct52 stood52, hfl]
  exact eqFields_req d _ _ _ _ (by decide) (by decide) (by decide) (by decide) rfl rfl rfl rfl rfl rfl rfl rfl r s hr hs w
theorem neq_req (r s : Req) (hr : r.ok) (hs : s.ok) (w : World) : (binOp .neq 52 (.agg r.cells.toArray) (.agg s.cells.toArray)).run Try.prog w = .ok (.bool (!reqEq r s)) w := by
  rw [run_neq_struct, equalIn_req 9997 r s hr hs w]
  rfl
end Go.Proofs.Ytmokngiokdffdaa.P
