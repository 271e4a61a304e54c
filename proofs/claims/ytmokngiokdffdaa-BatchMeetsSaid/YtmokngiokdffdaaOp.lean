/-
  A batch opened out of its reading.
-/
import Derived.Test.YtmokngiokdffdaaBm
import Derived.ProofKit
import Derived.Lib.SmallJoins
import Derived.Deep.Slices
namespace Go.Proofs.Ytmokngiokdffdaa.P
open Go.ChangeShapes Go.WideShapes Go.ChangeAt Go.RowKit Go.Joins Go.Deep Go.Proofs.YtmokngiokdffdaaW.PrintWords Go.Proofs.YtmokngiokdffdaaW.PrintLast Go.Proofs.YtmokngiokdffdaaW.PrintMore
set_option linter.unusedVariables false

theorem cells9 : Try.prog.cellsOf 9 = 1 := by kernel_rfl
theorem cells50 : Try.prog.cellsOf 50 = 16 := by kernel_rfl
theorem cells52 : Try.prog.cellsOf 52 = 19 := by kernel_rfl
theorem cells24 : Try.prog.cellsOf 24 = 2 := by kernel_rfl

theorem one_at {X : Type} {l : List X} {i : Nat} {v : X} (h : (l.drop i).take 1 = [v]) : l[i]? = some v := by
  have h2 := congrArg (fun m : List X => m[0]?) h
  simpa [List.getElem?_take, List.getElem?_drop] using h2
theorem wf_i64 {n : Int} (h : (Lit.int .i64 n).wf = true) : -9223372036854775808 ≤ n ∧ n < 9223372036854775808 := by
  have e1 : IntKind.i64.min = -9223372036854775808 := by decide
  have e2 : IntKind.i64.max = 9223372036854775807 := by decide
  simp [Lit.wf, e1, e2] at h
  omega
theorem wf_u8 {n : Int} (h : (Lit.int .u8 n).wf = true) : 0 ≤ n ∧ n < 256 := by
  have e1 : IntKind.u8.min = 0 := by decide
  have e2 : IntKind.u8.max = 255 := by decide
  simp [Lit.wf, e1, e2] at h
  omega

section
variable {H : Type} {enc : TypeId × Value → H} {w : World} {base : Nat} {spare : Nat → Bool} {held : Bool}
/-- A row of bytes by value. -/
theorem bytes_open {n : Nat} {cs : List Value} {x : DataW H × List MemPlace} {t : TypeId} {k : Nat} (ht : Try.prog.underlying t = some (.array k 5)) (hk : Try.prog.cellsOf t = k) (h : DataW.trod enc Try.prog w base spare held n t cs = some x) :
    ∃ l : List Int, l.length = k ∧ (∀ y ∈ l, 0 ≤ y ∧ y < 256) ∧ cs = nums .u8 l := by
  obtain ⟨xs, m, _, hx, hl, hlen, hf⟩ := DataW.trod_array ht h
  rw [hk] at hl
  obtain ⟨f, hfx⟩ := choose_lt (n := k) (p := fun i (y : Int) => cs[i]? = some (.int .u8 y) ∧ 0 ≤ y ∧ y < 256) (fun i hi => by
    have h1 := hf i hi
    have h2 : xs[i]? = some (xs[i]'(by omega)) := List.getElem?_eq_getElem (by omega)
    rw [h2, cells5, Nat.mul_one] at h1
    obtain ⟨y, e, _, hwf⟩ := DataW.trod_int Try.underlying5 h1
    exact ⟨y, one_at e, wf_u8 hwf⟩)
  refine ⟨(List.range k).map f, by simp, ?_, ?_⟩
  · intro y hy
    obtain ⟨i, hi, rfl⟩ := List.mem_map.1 hy
    exact (hfx i (List.mem_range.1 hi)).2
  · refine List.ext_getElem? (fun i => ?_)
    by_cases hi : i < k
    · rw [(hfx i hi).1]; simp [nums, hi]
    · rw [List.getElem?_eq_none (by omega), List.getElem?_eq_none (by simp [nums]; omega)]

theorem req_open {n : Nat} {cs : List Value} {x : DataW H × List MemPlace} (h : DataW.trod enc Try.prog w base spare held n 52 cs = some x) : ∃ r : Req, r.ok ∧ r.data.size ≤ 9223372036854775807 ∧ cs = r.cells := by
  obtain ⟨y0, y1, y2, y3, m, _, hl, h0, h1, h2, h3⟩ := trod_struct4 Try.underlying52 h
  rw [cells52] at hl
  have h0' : DataW.trod enc Try.prog w base spare held m 3 ((cs.drop 0).take (Try.prog.cellsOf 3)) = some y0 := h0
  have h1' : DataW.trod enc Try.prog w base spare held m 3 ((cs.drop 1).take (Try.prog.cellsOf 3)) = some y1 := h1
  have h2' : DataW.trod enc Try.prog w base spare held m 9 ((cs.drop 2).take (Try.prog.cellsOf 9)) = some y2 := h2
  have h3' : DataW.trod enc Try.prog w base spare held m 50 ((cs.drop 3).take (Try.prog.cellsOf 50)) = some y3 := h3
  rw [cells3] at h0' h1'
  rw [cells9] at h2'
  rw [cells50] at h3'
  obtain ⟨a, ea, _, wa⟩ := DataW.trod_int Try.underlying3 h0'
  obtain ⟨b, eb, _, wb⟩ := DataW.trod_int Try.underlying3 h1'
  obtain ⟨s, es, _, ws⟩ := DataW.trod_string Try.underlying9 h2'
  obtain ⟨l, hll, hlb, el⟩ := bytes_open Try.underlying50 cells50 h3'
  have pa := one_at ea
  have pb := one_at eb
  have ps := one_at es
  refine ⟨⟨a, b, s, l⟩, ⟨wf_i64 wa, wf_i64 wb, hll, hlb⟩, ws, ?_⟩
  refine List.ext_getElem? (fun i => ?_)
  match i with
  | 0 => exact pa
  | 1 => exact pb
  | 2 => exact ps
  | i + 3 =>
    have e : (Req.cells ⟨a, b, s, l⟩)[i + 3]? = (nums .u8 l)[i]? := rfl
    rw [e, ← el]
    have e2 : cs.drop 3 = (cs.drop 3).take 16 := by rw [List.take_of_length_le]; simp; omega
    rw [← e2, List.getElem?_drop, Nat.add_comm]

/-- A row of requests. -/
theorem reqs_open {n : Nat} {v : Value} {x : DataW H × List MemPlace} (h : DataW.trod enc Try.prog w base spare held n 22 [v] = some x) :
    ∃ (A : Option Addr) (rs : List Req) (c : Nat), v = .slice A rs.length c ∧ ReqsAt w A rs ∧ ∀ r ∈ rs, r.data.size ≤ 9223372036854775807 := by
  rcases open_slice Try.underlying22 h with ⟨hv, _⟩ | ⟨a, len, cap, m, k, D, Pl, hv, hb, hl, hm, hmm, _, hi⟩
  · simp only [List.cons.injEq, and_true] at hv
    exact ⟨none, [], 0, hv, ⟨by simp, fun r hr => by simp at hr, fun hp => by simp at hp⟩, fun r hr => by simp at hr⟩
  · simp only [List.cons.injEq, and_true] at hv
    have hlm : len ≤ m := by rw [hmm]; split <;> omega
    haveI : Inhabited Req := ⟨zReq⟩
    obtain ⟨f, hfx⟩ := choose_lt (α := Req) (n := len) (p := fun i (r : Req) => r.ok ∧ r.data.size ≤ 9223372036854775807 ∧ ∀ j v, r.cells[j]? = some v → w.cell? ((a.add (i * 19)).add j) = some v) (fun i hi2 => by
      obtain ⟨cs, hc, ht⟩ := hi i (by omega)
      obtain ⟨r, hok, hs, rfl⟩ := req_open ht
      rw [cells52] at hc
      obtain ⟨_, hcl, hat⟩ := World.cells?_some hc
      refine ⟨r, hok, hs, fun j v hj => ?_⟩
      have hj2 : j < 19 := by rw [← hcl]; exact (List.getElem?_eq_some_iff.1 hj).1
      rw [hat j hj2, hj])
    have hlen : ((List.range len).map f).length = len := by simp
    refine ⟨some a, (List.range len).map f, cap, by rw [hlen]; exact hv, ⟨?_, ?_, fun _ => ⟨a, rfl, ?_⟩⟩, ?_⟩
    · rw [hlen]; have : maxLen = 9223372036854775807 := rfl
      omega
    · intro r hr
      obtain ⟨i, hi, rfl⟩ := List.mem_map.1 hr
      exact (hfx i (List.mem_range.1 hi)).1
    · intro i r hr
      rw [List.getElem?_map, Option.map_eq_some_iff] at hr
      obtain ⟨j, hj, rfl⟩ := hr
      have hi2 : i < len := by
        have := (List.getElem?_eq_some_iff.1 hj).1
        simpa using this
      have e : j = i := by rw [List.getElem?_range hi2] at hj; exact (Option.some.inj hj).symm
      subst e
      exact (hfx j hi2).2.2
    · intro r hr
      obtain ⟨i, hi, rfl⟩ := List.mem_map.1 hr
      exact (hfx i (List.mem_range.1 hi)).2.1
/-- A batch. -/
theorem bat_open {r : Reach} {b0 : Nat} {v : Value} {d : DataW H} {p : List MemPlace} (hv : Value.okWide Try.prog w r b0 24 v) (h : DataW.Trod enc Try.prog w base spare held 24 v d p) :
    ∃ (noop : Bool) (A : Option Addr) (rs : List Req) (c : Nat), v = .agg #[.bool noop, .slice A rs.length c] ∧ ReqsAt w A rs ∧ ∀ r ∈ rs, r.data.size ≤ 9223372036854775807 := by
  obtain ⟨v0, v1, y0, y1, n, rfl, _, _, h0, h1⟩ := open_agg2 Try.underlying24 (by kernel_rfl) cells24 hv h
  have h0' : DataW.trod enc Try.prog w base spare held n 4 [v0] = some y0 := h0
  have h1' : DataW.trod enc Try.prog w base spare held n 22 [v1] = some y1 := h1
  obtain ⟨b, e, _⟩ := DataW.trod_bool Try.underlying4 h0'
  simp only [List.cons.injEq, and_true] at e
  subst e
  obtain ⟨A, rs, c, rfl, hr, hd⟩ := reqs_open h1'
  exact ⟨b, A, rs, c, rfl, hr, hd⟩
end
end Go.Proofs.Ytmokngiokdffdaa.P
