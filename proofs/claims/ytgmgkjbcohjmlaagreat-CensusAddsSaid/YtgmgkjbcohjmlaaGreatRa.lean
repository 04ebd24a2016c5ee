/- What stands for zeros.Ones and zeros.Count in the evaluation is sound. -/
import Derived.Test.YtgmgkjbcohjmlaaGreatEvF
import Derived.Test.YtgmgkjbcohjmlaaGreatWa
import Derived.KernelRfl
namespace Go.Ev
open Go.Proofs Go.Proofs.Wag
noncomputable section

def isFF : Value → Bool
  | .int k n => match k with
    | .u8 => match n with
      | .ofNat m => Nat.beq m 255
      | .negSucc _ => false
    | _ => false
  | _ => false

theorem isFF_eq {v : Value} (h : isFF v = true) : v = .int .u8 255 := by
  unfold isFF at h
  split at h
  · split at h
    · split at h
      · rename_i m; rw [Nat_beq h]; rfl
      · cases h
    · cases h
  · cases h

def ffChk (S : St) (F off n : Nat) : Bool :=
  match Nat.blt 0 n && Nat.ble n 9223372036854775807 with
  | true => match loadRow S F off n with
    | .ok l => l.all isFF
    | .no _ => false
  | false => false

def countO : List Value → St → Option (Res (Value × St))
  | [v], S => match v with
    | .slice (some ⟨F, off, none⟩) n _ => match ffChk S F off n with
      | true => some (.ok (.int .i64 0, S))
      | false => none
    | _ => none
  | _, _ => none

def onesL : List Value := List.replicate 256 (.int .u8 255)

def onesO : List Value → St → Option (Res (Value × St))
  | [v], S => match v with
    | .int .i64 (.ofNat m) => match Nat.beq m 256 with
      | true => some (.ok (.slice (some ⟨S.next, 0, none⟩) 256 0, S.new (mkRow onesL 1)))
      | false => none
    | _ => none
  | _, _ => none

def ora (f : FuncId) (args : List Value) (S : St) : Option (Res (Value × St)) :=
  match Nat.beq f 208 with
  | true => countO args S
  | false => match Nat.beq f 64 with
    | true => onesO args S
    | false => none

def none3 (_ : FuncId) (_ : List Value) (_ : St) : Option (Res (Value × St)) := none

theorem none3_ok (P : Program) : OraOk P none3 := by intro f args S v S' h; cases h

theorem ones_run : freshChk (run Tryz.prog none3 2000 64 [.int .i64 256] ⟨.lf, 0⟩) 1 onesL = true := by kernel_rfl
end
end Go.Ev
namespace Go.Ev
open Go.Proofs Go.Proofs.Wag
variable {φ : Phi} {S S' : St} {w : World}

theorem mixed : Tryz.prog.follows .mixedOrders = true := by kernel_rfl

theorem ffChk_sound {F off n : Nat} {l : Loc} (hR : Rel φ S w) (h : ffChk S F off n = true) (hl : φ F = some l) : 0 < n ∧ n ≤ 9223372036854775807 ∧ ∀ i, i < n → w.cell? ⟨l.blk, l.base + off + i, none⟩ = some (.int .u8 255) := by
  unfold ffChk at h
  split at h
  case h_2 => cases h
  rename_i hb
  rw [Bool.and_eq_true] at hb
  split at h
  case h_2 => cases h
  rename_i cs hcs
  refine ⟨Nat_blt hb.1, Nat_ble hb.2, fun i hi => ?_⟩
  obtain ⟨cs', hrel, hlen, hcell, _⟩ := loadRow_sound Tryz.prog hR hcs hl
  obtain ⟨x, hx⟩ : ∃ x, cs[i]? = some x := ⟨cs[i]'(by omega), List.getElem?_eq_getElem (by omega)⟩
  obtain ⟨x', hx', hr⟩ := hrel.get hx
  have hff := isFF_eq (List.all_eq_true.1 h x (List.mem_of_getElem? hx))
  subst hff
  cases hr
  exact hcell i _ hx'

theorem ones_len : onesL.length = 256 := by unfold onesL; rw [List.length_replicate]

theorem ora_ok : OraOk Tryz.prog ora := by
  intro f args S v S' h φ w args' hR hf ha
  unfold ora at h
  split at h
  · rename_i hb
    have hb := Nat_beq hb; subst hb
    unfold countO at h
    split at h
    case h_2 => cases h
    rename_i v0 S0
    split at h
    case h_2 => cases h
    rename_i F off n c
    split at h
    case h_2 => cases h
    rename_i hff
    cases h
    obtain ⟨args'⟩ := args'
    cases ha with
    | cons _ v' _ l' h1 h2 =>
      cases h2
      cases h1 with
      | sl _ _ _ _ l a cap hφ ha' hc' hn' =>
        obtain ⟨hpos, hbig, hcells⟩ := ffChk_sound hR hff hφ
        have := ha' (by omega); subst this
        have hz : ∀ j, j < (List.replicate n (255 : Int)).length → w.cell? ⟨l.blk, l.base + off + j, none⟩ = some (.int .u8 ((List.replicate n (255 : Int)).getD j 0)) := by
          intro j hj
          rw [List.length_replicate] at hj
          rw [hcells j hj]
          simp [List.getD, hj]
        refine (Count_any l.blk (l.base + off) n cap (List.replicate n 255) w (by simp) hbig hz).mono ?_
        rintro e w' ⟨rfl, rfl⟩
        have hcnt : ∀ k, cnts (List.replicate k 255) = 0 := by
          intro k
          have key : ∀ k, (List.replicate k (255 : Int)).foldl (fun n c => Go.RowKit.wrap64 (n + cnt c)) 0 = 0 := by
            intro k
            induction k with
            | zero => rfl
            | succ k ih =>
              rw [List.replicate_succ, List.foldl_cons, cnt_255, show Go.RowKit.wrap64 (0 + 0) = 0 from by decide +kernel]
              exact ih
          exact key k
        refine ⟨.int .i64 0, φ, ?_, Good.refl hR, .int _ _⟩
        rw [List.take_replicate, Nat.min_self, hcnt]
  · split at h
    · rename_i hb
      have hb := Nat_beq hb; subst hb
      unfold onesO at h
      split at h
      case h_2 => cases h
      rename_i v0 S0
      split at h
      case h_2 => cases h
      rename_i m
      split at h
      case h_2 => cases h
      rename_i hm
      have hm := Nat_beq hm; subst hm
      cases h
      have key := fresh_sound (l := onesL) (s := 1) (args := [.int .i64 256]) mixed (none3_ok _) (by decide +kernel) ones_run hR hf ha
      rw [ones_len] at key
      exact key
    · cases h
end Go.Ev
