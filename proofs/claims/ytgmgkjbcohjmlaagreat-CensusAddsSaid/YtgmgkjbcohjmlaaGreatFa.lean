/- What stands for awake, High and Same is sound. -/
import Derived.Test.YtgmgkjbcohjmlaaGreatRb
import Derived.Test.YtgmgkjbcohjmlaaGreatRc
import Derived.Test.YtgmgkjbcohjmlaaGreatWa
import Derived.Test.YtgmgkjbcohjmlaaGreatWb
namespace Go.Ev
open Go.Proofs Go.Proofs.Wag Go.RowKit
variable {φ φ' : Phi} {S S' : St} {w w' : World}

/-- What leaves all that was there as it was. -/
theorem below_good (hR : Rel φ S w) (hg : Below w.heap.size w w') : Good φ φ S S w w' := by
  refine ⟨fun _ _ h => h, fun F l h h' => (by rw [h] at h'; cases h'), Nat.le_refl _, ⟨?_, hR.excl, ?_, hR.dom⟩, hg.os, hg.tape, hg.output, hg.size, fun b hb _ => hg.block b hb, fun F l h h' => (by rw [h] at h'; cases h'), fun F ob h => .inl ⟨ob, h⟩⟩
  · intro F ob h
    obtain ⟨l, hl, hr⟩ := hR.obs F ob h
    exact ⟨l, hl, hr.same (hg.block _ (hR.ids F l hl))⟩
  · intro F l h
    exact Nat.lt_of_lt_of_le (hR.ids F l h) hg.size

theorem isTrue_ok {r : Res (Value × St)} (h : isTrue r = true) : ∃ S', r = .ok (.bool true, S') := by
  unfold isTrue at h
  split at h
  · rename_i p
    obtain ⟨v, S'⟩ := p
    cases v with
    | bool b => exact ⟨S', by rw [show b = true from h]⟩
    | _ => cases h
  · cases h

theorem awake_calls (w : World) : Calls Tryz.prog 9 #[] w fun e w' => e = .returned (.bool true) ∧ Below w.heap.size w w' := by
  obtain ⟨S', h⟩ := isTrue_ok awake42
  refine (closed_sound mixed ora_ok h rfl w).mono ?_
  rintro e w' ⟨rfl, h1, h2, h3, h4, h5⟩
  exact ⟨rfl, h1, h2, h3, h4, h5⟩

theorem intsOf_eq : ∀ {l : List Value} {r : List Int}, intsOf l = some r → l = r.map (Value.int .i64)
  | [], r, h => by simp only [intsOf] at h; cases h; rfl
  | v :: l, r, h => by
    simp only [intsOf] at h
    split at h
    · rename_i k n
      split at h
      · split at h
        · rename_i r' hr
          cases h
          rw [intsOf_eq hr]; rfl
        · cases h
      · cases h
    · cases h

theorem oraC_ok : OraOk Tryz.prog oraC := by
  intro f args S v S' h φ w args' hR hf ha
  unfold oraC at h
  obtain ⟨args'⟩ := args'
  split at h
  · rename_i hb
    have hb := Nat_beq hb; subst hb
    unfold awakeO at h
    split at h
    · cases h
      cases ha
      refine (awake_calls w).mono ?_
      rintro e w' ⟨rfl, hB⟩
      exact ⟨_, φ, rfl, below_good hR hB, .bool _⟩
    · cases h
  split at h
  · rename_i hb
    have hb := Nat_beq hb; subst hb
    unfold highO at h
    split at h
    case h_2 => cases h
    split at h
    case h_2 => cases h
    split at h
    case h_2 => cases h
    split at h
    case h_2 => cases h
    split at h
    case h_2 => cases h
    cases h
    cases ha with
    | cons _ a' _ l' h1 h2 =>
      cases h2 with
      | cons _ b' _ l'' h3 h4 =>
        cases h4
        cases h1; cases h3
        refine (high_any _ _ w).mono ?_
        rintro e w' ⟨rfl, rfl⟩
        exact ⟨_, φ, rfl, Good.refl hR, .int _ _⟩
  split at h
  case h_2 => cases h
  rename_i hb
  have hb := Nat_beq hb; subst hb
  unfold samesO at h
  split at h
  case h_2 => cases h
  split at h
  case h_2 => cases h
  split at h
  case h_2 => cases h
  rename_i a _ b
  split at h
  case h_2 => cases h
  rename_i l hl
  split at h
  case h_2 => cases h
  rename_i l' hl'
  split at h
  case h_2 => cases h
  rename_i r hr
  cases h
  unfold sameO at hr
  split at hr
  case h_2 => cases hr
  rename_i a0 a1 a2 k0 k1 k2 k3 k4 k5 a3 a4 a5 b0 b1 b2 j0 j1 j2 j3 j4 j5 b3 b4 b5
  have ea := intsOf_eq hl
  have eb := intsOf_eq hl'
  obtain ⟨a⟩ := a
  obtain ⟨b⟩ := b
  simp only at ea eb
  subst ea; subst eb
  obtain rfl := Option.some.inj hr
  obtain rfl : args' = [cen a0 a1 a2 k0 k1 k2 k3 k4 k5 a3 a4 a5, cen b0 b1 b2 j0 j1 j2 j3 j4 j5 b3 b4 b5] := plain_list rfl ha
  cases he : (k0 == j0 && k1 == j1 && k2 == j2 && k3 == j3 && k4 == j4 && k5 == j5) with
  | true =>
    refine (same_yes a0 a1 a2 k0 k1 k2 k3 k4 k5 a3 a4 a5 b0 b1 b2 j0 j1 j2 j3 j4 j5 b3 b4 b5 w (fun w => by rw [run_eq6, he])).mono ?_
    rintro e w' ⟨rfl, hB⟩
    exact ⟨_, φ, rfl, below_good hR hB, by rw [Bool.true_and]; exact .bool _⟩
  | false =>
    refine (same_no a0 a1 a2 k0 k1 k2 k3 k4 k5 a3 a4 a5 b0 b1 b2 j0 j1 j2 j3 j4 j5 b3 b4 b5 w (fun w => by rw [run_eq6, he])).mono ?_
    rintro e w' ⟨rfl, hB⟩
    exact ⟨_, φ, rfl, below_good hR hB, by rw [Bool.false_and]; exact .bool _⟩
end Go.Ev
