/-
  tally's reader: Num.
-/
import Derived.Test.YtmokngiokdffdaaDoorRg
namespace Go.Proofs.YtmokngiokdffdaaDoor.P
open Go.RowKit Go.Proofs.YtmokngiokdffdaaDoorW.PrintWords Go.Proofs.YtmokngiokdffdaaDoorW.PrintLast Go.Proofs.YtmokngiokdffdaaDoorW.PrintMore
set_option linter.unusedVariables false

theorem number_any (w0 w : World) (g : Nat) (rest : List Int) (e : Int) (hI : RdP w0 w g rest e) :
    Calls Tryd.prog 63 #[.pointer (some ⟨g, 0, none⟩)] w fun en w' => en = .returned (.tuple #[.int .i64 (numF rest).1, .int .i64 (numF rest).2.1, .int .i64 (numF rest).2.2]) ∧ w' = w := by
  by_cases h0 : rest.length = 0
  · have : rest = [] := List.eq_nil_of_length_eq_zero h0
    subst this
    exact number_nil w0 w g e hI
  have h0' : 0 < rest.length := by omega
  have hb0 := rd_byte hI.byte 0 (by omega) (by omega)
  unfold numF
  rw [if_neg h0]
  by_cases h1 : 8 < rd rest 0
  · rw [if_pos h1]; exact number_big w0 w g rest e hI h0' h1
  rw [if_neg h1]
  by_cases h2 : (rest.length : Int) ≤ rd rest 0
  · rw [if_pos h2]; exact number_cut w0 w g rest e hI h0' (by omega) h2
  rw [if_neg h2]
  by_cases h3 : 0 < rd rest 0 ∧ rd rest 1 = 0
  · rw [if_pos h3]; exact number_zero w0 w g rest e hI h0' (by omega) (by omega) h3.1 h3.2
  rw [if_neg h3]
  by_cases h4 : rd rest 0 = 8 ∧ 127 < rd rest 1
  · rw [if_pos h4]; exact number_high w0 w g rest e hI h0' (by omega) h4.1 (fun h => h3 ⟨by omega, h⟩) h4.2
  rw [if_neg h4]
  exact number_ok w0 w g rest e hI h0' (by omega) (by omega) (fun h h' => h3 ⟨h, h'⟩) (fun h => by
    by_cases h5 : 127 < rd rest 1
    · exact absurd ⟨h, h5⟩ h4
    · omega)

/-- A number that is read: what it is, what is left, the error from then on. -/
def numS (rest : List Int) (e most : Int) : Int × List Int × Int :=
  if e ≠ 0 then (0, rest, e) else
  if (numF rest).2.2 ≠ 0 then (0, [], (numF rest).2.2) else
  if most < (numF rest).1 then (0, [], 3) else ((numF rest).1, rest.drop (numF rest).2.1.toNat, 0)

theorem numF_size {rest : List Int} (hb : ∀ x ∈ rest, 0 ≤ x ∧ x < 256) (h : (numF rest).2.2 = 0) : 0 < (numF rest).2.1 ∧ (numF rest).2.1 ≤ rest.length := by
  unfold numF at h ⊢
  by_cases h0 : rest.length = 0
  · rw [if_pos h0] at h; exact absurd h (by decide)
  have hb0 := rd_byte hb 0 (by omega) (by omega)
  rw [if_neg h0] at h ⊢
  split at h
  · exact absurd h (by decide)
  split at h
  · exact absurd h (by decide)
  split at h
  · exact absurd h (by decide)
  split at h
  · exact absurd h (by decide)
  rename_i h1 h2 h3 h4
  rw [if_neg h1, if_neg h2, if_neg h3, if_neg h4]
  exact ⟨by simp only; omega, by simp only; omega⟩

/-- What a call of Num leaves. -/
def NumR (w0 w : World) (g : Nat) (rest : List Int) (e most : Int) (en : Ending) (w' : World) : Prop :=
  en = .returned (.int .i64 (numS rest e most).1) ∧ RdP w0 w' g (numS rest e most).2.1 (numS rest e most).2.2 ∧ Kp g w w'

theorem Num_any (w0 w : World) (g : Nat) (rest : List Int) (e most : Int) (hI : RdP w0 w g rest e) :
    Calls Tryd.prog 56 #[.pointer (some ⟨g, 0, none⟩), .int .i64 most] w (NumR w0 w g rest e most) := by
  have HI := Aside0.mk hI
  unfold NumR
  by_cases he : e = 0
  · have hn : (e != 0) = false := by simp [he]
    subst he
    have hz := numF_size hI.byte
    have hs : numS rest 0 most = if (numF rest).2.2 ≠ 0 then (0, [], (numF rest).2.2) else if most < (numF rest).1 then (0, [], 3) else ((numF rest).1, rest.drop (numF rest).2.1.toNat, 0) := by
      unfold numS; rw [if_neg (fun h => h rfl)]
    rw [hs]
    clear hs
    have HN := Aside0.mk (number_any w0 w g rest 0 hI)
    rcases hq : numF rest with ⟨n, size, er⟩
    rw [hq] at hz
    have HNQ := Aside0.mk hq
    clear hI hq
    simp only at hz ⊢
    by_cases her : er = 0
    · have hz2 := hz her
      subst her
      rw [if_neg (fun h => h rfl)]
      by_cases hm : most < n
      · have hd : decide (most < n) = true := decide_eq_true hm
        rw [if_pos hm]
        clear hm hz hz2
        go_enter Tryd.func56, Tryd.ntmps56
        go_wp2_with (first | (go_at_call 58; refine (stopped_any w0 _ g rest 0 HI.out).mono ?_; rintro en w' ⟨rfl, rfl⟩) | (go_at_call 63; refine HN.out.mono ?_; rintro en w' ⟨rfl, rfl⟩; simp only [HNQ.out]) | (go_at_call 64; refine (fail_any w0 _ g rest 0 3 HI.out).mono ?_; rintro en w' ⟨rfl, hI', hK'⟩; have HI' := Aside0.mk hI'; have HK' := Aside0.mk hK'; clear hI' hK'))
        go_ret
        exact ⟨rfl, HI'.out, HK'.out⟩
      · have hd : decide (most < n) = false := decide_eq_false hm
        rw [if_neg hm]
        obtain ⟨k, rfl⟩ : ∃ k : Nat, size = (k : Int) := ⟨size.toNat, by omega⟩
        have HT := Aside0.mk (take_any w0 w g k rest 0 HI.out (by omega) (by omega))
        clear hm hz hz2
        go_enter Tryd.func56, Tryd.ntmps56
        go_wp2_with (first | (go_at_call 58; refine (stopped_any w0 _ g rest 0 HI.out).mono ?_; rintro en w' ⟨rfl, rfl⟩) | (go_at_call 63; refine HN.out.mono ?_; rintro en w' ⟨rfl, rfl⟩; simp only [HNQ.out]) | (go_at_call 65; refine HT.out.mono ?_; rintro en w' ⟨⟨v, rfl⟩, hI', hK'⟩; have HI' := Aside0.mk hI'; have HK' := Aside0.mk hK'; clear hI' hK'))
        go_ret
        exact ⟨rfl, HI'.out, HK'.out⟩
    · have h1 : (er == 0) = false := beq_eq_false_iff_ne.mpr her
      have h2 : (er != 0) = true := by simp [her]
      rw [if_pos her]
      clear her hz
      go_enter Tryd.func56, Tryd.ntmps56
      go_wp2_with (first | (go_at_call 58; refine (stopped_any w0 _ g rest 0 HI.out).mono ?_; rintro en w' ⟨rfl, rfl⟩) | (go_at_call 63; refine HN.out.mono ?_; rintro en w' ⟨rfl, rfl⟩; simp only [HNQ.out]) | (go_at_call 64; refine (fail_any w0 _ g rest 0 er HI.out).mono ?_; rintro en w' ⟨rfl, hI', hK'⟩; have HI' := Aside0.mk hI'; have HK' := Aside0.mk hK'; clear hI' hK'))
      go_ret
      exact ⟨rfl, HI'.out, HK'.out⟩
  · have hn : (e != 0) = true := by simp [he]
    have hs : numS rest e most = (0, rest, e) := by unfold numS; rw [if_pos he]
    rw [hs]
    clear hI he hs
    go_enter Tryd.func56, Tryd.ntmps56
    go_wp2_with (first | (go_at_call 58; refine (stopped_any w0 w g rest e HI.out).mono ?_; rintro en w' ⟨rfl, rfl⟩))
    go_ret
    exact ⟨rfl, HI.out, Kp.refl _ _⟩

end Go.Proofs.YtmokngiokdffdaaDoor.P
