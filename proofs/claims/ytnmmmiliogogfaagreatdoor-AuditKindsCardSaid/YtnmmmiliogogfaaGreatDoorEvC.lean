/- The evaluator's operations are sound (slices, append): helper texts, no condition. -/
import Derived.Test.YtnmmmiliogogfaaGreatDoorEvB
import Derived.IntWalk
set_option linter.unusedVariables false
set_option linter.unusedSimpArgs false
namespace Go.Ev
section
variable {P : Program} {φ : Phi} {S : St} {w : World} {T : Ts} {ρ : Operand → Value}

theorem rep_get (z : List Value) : ∀ (n i : Nat), (repCells n z)[i]? = if i < n * z.length then z[i % z.length]? else none
  | 0, i => by simp [repCells]
  | n + 1, i => by
    simp only [repCells]
    have e : (n + 1) * z.length = n * z.length + z.length := Nat.succ_mul _ _
    by_cases h : i < z.length
    · rw [List.getElem?_append_left h, if_pos (by omega), Nat.mod_eq_of_lt h]
    · rw [List.getElem?_append_right (by omega), rep_get z n]
      have hm : (i - z.length) % z.length = i % z.length := by
        rw [Nat.mod_eq_sub_mod (show i ≥ z.length by omega)]
      by_cases h2 : i - z.length < n * z.length
      · rw [if_pos h2, if_pos (by omega), hm]
      · rw [if_neg h2, if_neg (by omega)]
theorem rep_len (z : List Value) : ∀ n, (repCells n z).length = n * z.length
  | 0 => by simp [repCells]
  | n + 1 => by simp only [repCells, List.length_append, rep_len z n]; rw [Nat.succ_mul]; omega
theorem rep_rel {z : List Value} (h : z.all plain = true) (n : Nat) : RelL φ (repCells n z) (repCells n z) := by
  induction n with
  | zero => exact .nil
  | succ n ih => exact (zero_rel h).append ih

/-- The zeros of a new row, as the model makes them. -/
theorem zeros_eq (zv : Value) (n : Nat) : ((Array.range (n * zv.cells.toList.length)).map fun i => zv.cells[i % zv.cells.size]!) = ⟨repCells n zv.cells.toList⟩ := by
  apply Array.ext'
  apply List.ext_getElem?
  intro i
  rw [rep_get]
  have hs : zv.cells.size = zv.cells.toList.length := by simp
  by_cases h : i < n * zv.cells.toList.length
  · rw [if_pos h]
    have hpos : 0 < zv.cells.toList.length := by
      rcases Nat.eq_zero_or_pos zv.cells.toList.length with h0 | h0
      · rw [h0] at h; simp at h
      · exact h0
    have hlt : i % zv.cells.toList.length < zv.cells.toList.length := Nat.mod_lt _ hpos
    have hlt2 : i % zv.cells.size < zv.cells.size := by rw [hs]; exact hlt
    simp only [Array.toList_map, List.getElem?_map, Array.toList_range, List.getElem?_range h, Option.map_some]
    rw [getElem!_pos zv.cells _ hlt2, List.getElem?_eq_getElem hlt]
    simp
  · rw [if_neg h]
    simp only [Array.toList_map, List.getElem?_map, Array.toList_range]
    rw [List.getElem?_eq_none (by simp at h ⊢; omega)]
    rfl

theorem fill_size (place : Nat → Option (Nat × Nat)) : ∀ (ps : List (Nat × Value)) (cs out : Array Value), Instr.fill place cs ps = some out → out.size = cs.size := by
  intro ps
  induction ps with
  | nil => intro cs out h; simp only [Instr.fill] at h; cases h; rfl
  | cons p ps ih =>
    intro cs out h
    obtain ⟨i, v⟩ := p
    simp only [Instr.fill] at h
    split at h
    · cases h
    · split at h
      · cases h
      · rw [ih _ _ h]
        have : ∀ (l : List (Value × Nat)) (o : Nat) (a : Array Value), (l.foldl (fun cs (p : Value × Nat) => cs.setIfInBounds (o + p.2) p.1) a).size = a.size := by
          intro l
          induction l with
          | nil => intro o a; rfl
          | cons x l ihl => intro o a; simp only [List.foldl_cons, ihl, Array.size_setIfInBounds]
        rw [← Array.foldl_toList]
        exact this _ _ _

section
variable (dst : Option Tmp) (ty : TypeId) (pos : String) (aft : Array Edge) (gd : Option (Nat × Bool))
variable {t0 : TypeId} {act : Act1}

theorem elemT_some {t e : TypeId} (h : elemT P t = some e) : P.underlying t = some (.slice e) := by
  unfold elemT at h
  split at h
  · cases h; assumption
  · cases h

theorem wrap_small {n : Int} (h0 : 0 ≤ n) (h : n ≤ 1000000000) : IntKind.i64.wrap n = n := IntWalk.i64_in n (by omega)

theorem rep_empty {z : List Value} {n s : Nat} (hl : z.length = s) (h : n * s = 0) : repCells n z = [] := by
  apply List.length_eq_zero_iff.1
  rw [rep_len, hl, h]

theorem makeSlice_run {t e : TypeId} {i : TypeInfo} {zv : Value} {k1 k2 : IntKind} {ln cn : Nat} (hs : P.underlying t = some (.slice e)) (hi : P.info? e = some i) (hzv : i.zero = some zv) (hlen : zv.cells.toList.length = i.size)
    (hlc : ln ≤ cn) (hcn : cn ≤ 1000000000) (hcby : cn * i.bytes ≤ 1000000000) (w : World) :
    (Instr.makeSlice t (.int k1 (Int.ofNat ln)) (.int k2 (Int.ofNat cn))).run P w = .ok (.slice (some ⟨w.heap.size, 0, none⟩) ln cn) (w.alloc (.cells ⟨repCells cn zv.cells.toList⟩ e)) := by
  have w1 : IntKind.i64.wrap (Int.ofNat ln) = Int.ofNat ln := wrap_small (by simp) (by simp; omega)
  have w2 : IntKind.i64.wrap (Int.ofNat cn) = Int.ofNat cn := wrap_small (by simp) (by simp; omega)
  unfold Instr.makeSlice
  simp only [Sem.run_bind, run_underlying hs, Result.andThen_ok, asInt, asIntOf, Sem.run_pure, run_info hi, w1, w2]
  have hcond : ¬ (((decide (Int.ofNat cn < 0) || decide ((i.bytes : Int) * Int.ofNat cn > 2 ^ 48)) || decide (Int.ofNat ln < 0) || decide (Int.ofNat ln > Int.ofNat cn)) = true) := by
    have : (i.bytes : Int) * Int.ofNat cn ≤ 1000000000 := by
      have h2 : ((cn * i.bytes : Nat) : Int) ≤ 1000000000 := by omega
      rw [Int.mul_comm]
      simpa using h2
    simp only [Bool.or_eq_true, decide_eq_true_eq, not_or]
    have h0 : (0 : Int) ≤ Int.ofNat cn := Int.natCast_nonneg _
    have h1 : (0 : Int) ≤ Int.ofNat ln := Int.natCast_nonneg _
    have h2 : Int.ofNat ln ≤ Int.ofNat cn := Int.ofNat_le.2 hlc
    refine ⟨⟨⟨?_, ?_⟩, ?_⟩, ?_⟩ <;> omega
  rw [if_neg hcond]
  have ht1 : (Int.ofNat cn).toNat = cn := rfl
  have ht2 : (Int.ofNat ln).toNat = ln := rfl
  simp only [Sem.run_bind, run_askRoom, Result.andThen_ok, run_size hi, ht1, ht2]
  by_cases h0 : cn * i.size = 0
  · simp only [h0, if_true, Sem.run_bind, Sem.run_pure, Result.andThen_ok, Go.newRow, run_newObj, rep_empty hlen h0]
    rw [show Array.range 0 = #[] from rfl, Array.map_empty]
    rfl
  · simp only [h0, if_false, Sem.run_bind, Sem.run_pure, Result.andThen_ok, Go.newRow, run_newObj, run_zero hi hzv]
    rw [← hlen, zeros_eq zv cn]
    rfl

theorem buildSlice_run {t e : TypeId} {i : TypeInfo} {zv : Value} {len : Nat} {ps : Array (Nat × Value)} {out : Array Value} (hs : P.underlying t = some (.slice e)) (hi : P.info? e = some i) (hzv : i.zero = some zv)
    (hlen : zv.cells.toList.length = i.size) (hsz : len * i.size ≤ 65536) (hf : Instr.fill (fun j => some (j * i.size, i.size)) ⟨repCells len zv.cells.toList⟩ ps.toList = some out) (w : World) :
    (Instr.buildSlice t len ps).run P w = .ok (.slice (some ⟨w.heap.size, 0, none⟩) len len) (w.alloc (.cells out e)) := by
  unfold Instr.buildSlice
  simp only [Sem.run_bind, run_underlying hs, Result.andThen_ok, run_size hi]
  have hc : ¬ (len * i.size > 2 ^ 24) := by have : (2 : Nat) ^ 24 = 16777216 := by decide
                                            omega
  rw [if_neg hc]
  by_cases h0 : len * i.size = 0
  · rw [rep_empty hlen h0] at hf
    have hr : (Array.map (fun x => (#[] : Array Value)[x % (#[] : Array Value).size]!) (Array.range 0)) = ⟨[]⟩ := by simp
    simp only [h0, if_true, Sem.run_bind, Sem.run_pure, Result.andThen_ok, hr, hf, Go.newRow, run_newObj]
    rfl
  · rw [← zeros_eq zv len, hlen] at hf
    simp only [h0, if_false, Sem.run_bind, Sem.run_pure, Result.andThen_ok, run_zero hi hzv, hf, Go.newRow, run_newObj]
    rfl

theorem makeslice_ok {t : TypeId} {l c : Operand} (ho : ORel φ T ρ [l, c]) (h : oMkSl t l c P t0 T S = .ok act) : ActOk P φ S w ((execOp ρ ⟨dst, .makeSlice t l c, ty, pos, aft, gd⟩).run P w) act := by
  unfold oMkSl at h
  obtain ⟨lv, hlv, h1⟩ := Res.bind_ok h
  obtain ⟨cv, hcv, h2⟩ := Res.bind_ok h1
  unfold unN at h2
  obtain ⟨u, hu, h3⟩ := Res.bind_ok h2
  have hrl := ho l (by simp) lv hlv
  have hrc := ho c (by simp) cv hcv
  clear h h1 h2 hlv hcv ho
  cases h3
  show ActOk P φ S w ((do pure (Next.value (← Instr.makeSlice t (ρ l) (ρ c))) : Sem Next).run P w) _
  generalize ρ l = l' at hrl ⊢
  generalize ρ c = c' at hrc ⊢
  unfold makeSliceR at hu
  split at hu
  case h_2 => cases hu
  rename_i e k1 ln k2 cn he
  have hs := elemT_some he
  have := rel_int hrl; subst this
  have := rel_int hrc; subst this
  split at hu
  · cases hu
  rename_i zero hz
  split at hu
  · cases hu
  rename_i hb
  simp only [Bool.and_eq_true] at hb
  obtain ⟨⟨⟨hb1, hb2⟩, hb3⟩, hb4⟩ := hb
  have hlc := Nat_ble hb1
  have hcb := Nat_ble hb2
  have hlen := Nat_beq hb3
  cases hu
  obtain ⟨i, zv, hi, hzv, rfl⟩ := zeroT_some hz
  have hkn : knownT P e = true := by unfold knownT; rw [hi]
  have hbt : bytesT P e = i.bytes := by unfold bytesT; rw [hi]
  have hcn : cn ≤ 1000000000 := by
    have : cn * 1 ≤ cn * (bytesT P e + 1) := Nat.mul_le_mul_left _ (by omega)
    omega
  have hcby : cn * i.bytes ≤ 1000000000 := by
    rw [hbt, Nat.mul_add] at hcb
    omega
  have hrl2 : (repCells cn zv.cells.toList).length = cn * sizeT P e := by rw [rep_len, hlen]
  refine new_row_ok (hi := cn * sizeT P e) (cs' := repCells cn zv.cells.toList) (c := ⟨repCells cn zv.cells.toList⟩) (e := e) ?_ (by rw [← hrl2]; exact Nat.le_refl _) (by rw [hrl2]; exact Nat.le_refl _) (fun i x hx => by simpa using hx) (rep_rel hb4 cn)
    (fun φ' _ hφ => RelV.sl S.next 0 ln (cn + 1) ⟨w.heap.size, 0, cn * sizeT P e, sizeT P e⟩ ⟨w.heap.size, 0, none⟩ cn hφ (fun _ => rfl) rfl hlc)
  rw [Sem.run_bind, makeSlice_run hs hi hzv (by rw [hlen, sizeT_eq hi]) hlc hcn hcby]
  rfl
theorem buildslice_ok {t : TypeId} {len : Nat} {ps : Array (Nat × Operand)} (ho : ORel φ T ρ (ps.toList.map (·.2))) (h : oBuildSlice t len ps P t0 T S = .ok act) : ActOk P φ S w ((execOp ρ ⟨dst, .buildSlice t len ps, ty, pos, aft, gd⟩).run P w) act := by
  unfold oBuildSlice at h
  obtain ⟨vs, hvs, h1⟩ := Res.bind_ok h
  have hp := opnds2_rel ho hvs
  suffices key : ∀ qs : Array (Nat × Value), qs.toList = (ps.toList.map fun p => (p.1, ρ p.2)) → ActOk P φ S w (((Instr.buildSlice t len qs).run P w).andThen fun v w' => .ok (.value v) w') act by
    simp only [execOp, Sem.run_bind, Sem.run_pure]
    exact key _ (by simp)
  intro qs hpl
  unfold unN at h1
  obtain ⟨u, hu, h2⟩ := Res.bind_ok h1
  clear h h1 hvs ho
  cases h2
  unfold buildSliceR at hu
  split at hu
  · cases hu
  rename_i e he
  have hs := elemT_some he
  simp only at hu
  split at hu
  · cases hu
  rename_i zero hz
  split at hu
  · cases hu
  rename_i hb
  simp only [Bool.and_eq_true] at hb
  obtain ⟨⟨hb1, hb2⟩, hb3⟩ := hb
  have hlen := Nat_beq hb2
  have hsz := Nat_ble hb1
  obtain ⟨i, zv, hi, hzv, rfl⟩ := zeroT_some hz
  split at hu
  case h_2 => cases hu
  rename_i out hout
  cases hu
  obtain ⟨out', ho', hr⟩ := fill_rel _ vs _ _ _ _ hp (rep_rel hb3 len) hout
  have hkn : knownT P e = true := by unfold knownT; rw [hi]
  have hos : out'.length = len * sizeT P e := by
    have h1 := fill_size _ _ _ _ ho'
    have h2 : (⟨repCells len zv.cells.toList⟩ : Array Value).size = (repCells len zv.cells.toList).length := rfl
    have h3 : (⟨out'⟩ : Array Value).size = out'.length := rfl
    rw [h2, rep_len, hlen, h3] at h1
    exact h1
  refine new_row_ok (hi := out'.length) (cs' := out') (c := ⟨out'⟩) (e := e) ?_ (Nat.le_refl _) (by rw [hr.length]; exact Nat.le_refl _) (fun i x hx => by simpa using hx) hr
    (fun φ' _ hφ => RelV.sl S.next 0 len (len + 1) ⟨w.heap.size, 0, out'.length, sizeT P e⟩ ⟨w.heap.size, 0, none⟩ len hφ (fun _ => rfl) rfl (Nat.le_refl _))
  have hz1 : zv.cells.toList.length = i.size := by rw [hlen, sizeT_eq hi]
  have hz2 : len * i.size ≤ 65536 := (sizeT_eq hi) ▸ hsz
  have hz3 : Instr.fill (fun j => some (j * i.size, i.size)) ⟨repCells len zv.cells.toList⟩ qs.toList = some ⟨out'⟩ := by
    rw [hpl, ← sizeT_eq hi]
    exact ho'
  rw [buildSlice_run hs hi hzv hz1 hz2 hz3 w]
  rfl

end
end
end Go.Ev
namespace Go.Ev
section
variable {P : Program} {φ : Phi} {S : St} {w : World} {T : Ts} {ρ : Operand → Value}

theorem boundR_ok {x : Value} {y n : Nat} (h : boundR x y = .ok n) : ∃ k, x = .int k (Int.ofNat n) ∧ n ≤ y := by
  unfold boundR at h
  split at h
  · rename_i k i
    split at h
    · rename_i m
      split at h
      · rename_i hb
        cases h
        exact ⟨k, rfl, Nat_ble hb⟩
      · cases h
    · cases h
  · cases h

theorem sliceBound_run {k : IntKind} {n y : Nat} (h : n ≤ y) (c : BoundsCode) (w : World) : (Instr.sliceBound (.int k (Int.ofNat n)) y c).run P w = .ok n w := by
  unfold Instr.sliceBound
  simp only [asIntOf, Sem.run_bind, Sem.run_pure, Result.andThen_ok]
  rw [if_pos (by simp; exact h)]
  rfl

theorem sliceBound_run' {k : IntKind} {n y : Nat} (h : n ≤ y) (c : BoundsCode) (w : World) : (Instr.sliceBound (.int k (n : Int)) y c).run P w = .ok n w := sliceBound_run h c w

/-- What the bounds of a slice expression are. -/
def MxOk (mx : Option Value) (cap m : Nat) : Prop := match mx with | some v => ∃ k, v = .int k (Int.ofNat m) ∧ m ≤ cap | none => m = cap
def HiOk (hi mx : Option Value) (len m h : Nat) : Prop := match hi with | some v => ∃ k, v = .int k (Int.ofNat h) ∧ h ≤ m | none => mx = none ∧ h = len
def LoOk (lo : Option Value) (h l : Nat) : Prop := match lo with | some v => ∃ k, v = .int k (Int.ofNat l) ∧ l ≤ h | none => l = 0

/-- The bounds of a slice expression, as the model reckons them. -/
theorem sliceBounds_run {lo hi mx lo' hi' mx' : Option Value} {isS : Bool} {len cap m h l : Nat} (rlo : RelO φ lo lo') (rhi : RelO φ hi hi') (rmx : RelO φ mx mx')
    (hm : MxOk mx cap m) (hh : HiOk hi mx len m h) (hl : LoOk lo h l) (w : World) :
    (Instr.sliceBounds isS len cap lo' hi' mx').run P w = .ok (l, h, m) w := by
  unfold Instr.sliceBounds
  cases mx with
  | none =>
    cases mx' with
    | some _ => exact rmx.elim
    | none =>
      simp only [MxOk] at hm
      subst hm
      cases hi with
      | none =>
        cases hi' with
        | some _ => exact rhi.elim
        | none =>
          obtain ⟨_, rfl⟩ := hh
          cases lo with
          | none =>
            cases lo' with
            | some _ => exact rlo.elim
            | none => simp only [LoOk] at hl; subst hl; simp
          | some v =>
            cases lo' with
            | none => exact rlo.elim
            | some v' =>
              obtain ⟨k, rfl, hle⟩ := hl
              have := rel_int rlo; subst this
              simp [sliceBound_run' hle]
      | some hv =>
        cases hi' with
        | none => exact rhi.elim
        | some hv' =>
          obtain ⟨k, rfl, hle⟩ := hh
          have := rel_int rhi; subst this
          cases lo with
          | none =>
            cases lo' with
            | some _ => exact rlo.elim
            | none => simp only [LoOk] at hl; subst hl; simp [sliceBound_run' hle]
          | some v =>
            cases lo' with
            | none => exact rlo.elim
            | some v' =>
              obtain ⟨k2, rfl, hle2⟩ := hl
              have := rel_int rlo; subst this
              simp [sliceBound_run' hle, sliceBound_run' hle2]
  | some mv =>
    cases mx' with
    | none => exact rmx.elim
    | some mv' =>
      obtain ⟨k0, rfl, hm0⟩ := hm
      have := rel_int rmx; subst this
      cases hi with
      | none => exact absurd hh.1 (by simp)
      | some hv =>
        cases hi' with
        | none => exact rhi.elim
        | some hv' =>
          obtain ⟨k, rfl, hle⟩ := hh
          have := rel_int rhi; subst this
          cases lo with
          | none =>
            cases lo' with
            | some _ => exact rlo.elim
            | none => simp only [LoOk] at hl; subst hl; simp [sliceBound_run' hle, sliceBound_run' hm0]
          | some v =>
            cases lo' with
            | none => exact rlo.elim
            | some v' =>
              obtain ⟨k2, rfl, hle2⟩ := hl
              have := rel_int rlo; subst this
              simp [sliceBound_run' hle, sliceBound_run' hle2, sliceBound_run' hm0]

theorem mx_fact {mx : Option Value} {cap m : Nat} (h : (match mx with | some v => boundR v cap | none => .ok cap) = .ok m) :
    MxOk mx cap m := by
  cases mx with
  | none => simp only at h; cases h; rfl
  | some v => exact boundR_ok h
theorem hi_fact {hi : Option Value} {mx : Option Value} {len m x : Nat} {n : Nat} (h : (match hi with | some v => boundR v m | none => (match mx with | some _ => .no n | none => .ok len)) = .ok x) :
    HiOk hi mx len m x := by
  cases hi with
  | none => cases mx with
    | none => simp only at h; cases h; exact ⟨rfl, rfl⟩
    | some v => simp at h
  | some v => exact boundR_ok h
theorem lo_fact {lo : Option Value} {x l : Nat} (h : (match lo with | some v => boundR v x | none => .ok 0) = .ok l) :
    LoOk lo x l := by
  cases lo with
  | none => simp only at h; cases h; rfl
  | some v => exact boundR_ok h
theorem lo_le {lo : Option Value} {x l : Nat} (h : LoOk lo x l) : l ≤ x := by
  cases lo with
  | none => simp only [LoOk] at h; omega
  | some v => obtain ⟨_, _, h⟩ := h; exact h

section
variable (dst : Option Tmp) (ty : TypeId) (pos : String) (aft : Array Edge) (gd : Option (Nat × Bool))
variable {t0 : TypeId} {act : Act1}

theorem sliceR_sound (hR : Rel φ S w) {t : TypeId} {x x' : Value} {lo hi mx lo' hi' mx' : Option Value} {v : Value} (h : sliceR P S t x lo hi mx = .ok v) (hr : RelV φ x x') (rlo : RelO φ lo lo') (rhi : RelO φ hi hi') (rmx : RelO φ mx mx') :
    ∃ v', (Instr.sliceAt t x' lo' hi' mx').run P w = .ok v' w ∧ RelV φ v v' := by
  unfold sliceR at h
  split at h
  · rename_i s hs
    split at h
    · cases h
    simp only at h
    obtain ⟨hh, hhi, h⟩ := Res.bind_ok h
    obtain ⟨b, hlo, h⟩ := Res.bind_ok h
    cases h
    have := rel_string hr; subst this
    have f1 : HiOk hi none s.size s.size hh := by
      cases hi with
      | none => simp only at hhi; cases hhi; exact ⟨rfl, size_data s⟩
      | some v => have := boundR_ok hhi; rw [size_data] at this; exact this
    have f2 := lo_fact hlo
    have hle := lo_le f2
    refine ⟨.string ⟨⟨(s.data.toList.drop b).take (hh - b)⟩⟩, ?_, .string _⟩
    unfold Instr.sliceAt
    simp only [Sem.run_bind, run_underlying hs, Result.andThen_ok]
    unfold Instr.slice
    simp only [Sem.run_bind, run_underlying hs, Result.andThen_ok]
    have hmx' : mx' = none := by cases mx' with | none => rfl | some _ => exact rmx.elim
    subst hmx'
    have hb := sliceBounds_run (P := P) (isS := false) (len := s.size) (cap := s.size) (m := s.size) rlo rhi (mx := none) (mx' := none) trivial rfl f1 f2 w
    simp only [Option.isSome_none, Bool.false_eq_true, if_false, Sem.run_bind, hb, Result.andThen_ok, Sem.run_pure]
    congr 2
    apply string_ext
    simp [ByteArray.data_extract, List.take_drop]
  · rename_i e base len c hs
    simp only at h
    split at h
    · cases h
    rename_i hk
    split at h
    · -- nil
      split at h
      case h_2 => cases h
      obtain ⟨hh, hhi, h⟩ := Res.bind_ok h
      obtain ⟨l, hlo, h⟩ := Res.bind_ok h
      split at h
      case h_2 => cases h
      cases h
      obtain ⟨rfl, _, rfl⟩ := slice_nil hr
      have hmx' : mx' = none := by cases mx' with | none => rfl | some _ => exact rmx.elim
      subst hmx'
      have f1 : HiOk hi none 0 0 hh := by
        cases hi with
        | none => simp only at hhi; cases hhi; exact ⟨rfl, rfl⟩
        | some v => exact boundR_ok hhi
      have hh0 : hh = 0 := by cases hi with | none => exact f1.2 | some v => obtain ⟨_, _, h⟩ := f1; omega
      subst hh0
      have f2 := lo_fact hlo
      have hl0 : l = 0 := by have := lo_le f2; omega
      subst hl0
      refine ⟨.slice none 0 0, ?_, .sl0⟩
      have hb := sliceBounds_run (P := P) (isS := true) (len := 0) (cap := 0) (m := 0) rlo rhi (mx := none) (mx' := none) trivial rfl f1 f2 w
      unfold Instr.sliceAt
      simp only [Sem.run_bind, run_underlying hs, Result.andThen_ok]
      unfold Instr.slice
      simp only [Sem.run_bind, run_underlying hs, Result.andThen_ok, hb, run_sizeT hk, Sem.run_pure]
      rfl
    · rename_i a
      have hrun : ∀ (a' : Addr) (cap m hh l : Nat), MxOk mx cap m → HiOk hi mx len m hh → LoOk lo hh l →
          (Instr.sliceAt t (.slice (some a') len cap) lo' hi' mx').run P w = .ok (.slice (some (if m = l then a' else a'.add (l * sizeT P e))) (hh - l) (m - l)) w := by
        intro a' cap m hh l f0 f1 f2
        have hb := sliceBounds_run (P := P) (isS := true) (len := len) (cap := cap) (m := m) rlo rhi rmx f0 f1 f2 w
        unfold Instr.sliceAt
        simp only [Sem.run_bind, run_underlying hs, Result.andThen_ok]
        unfold Instr.slice
        simp only [Sem.run_bind, run_underlying hs, Result.andThen_ok, hb, run_sizeT hk, Sem.run_pure]
        congr 2
        split <;> rfl
      obtain ⟨F, off, l0, a', cap, rfl, rfl, hF, ha, hc, hle⟩ := slice_addr hr
      have haddr : ∀ m l, m ≤ cap → (m - l ≠ 0 → (if m = l then a' else a'.add (l * sizeT P e)) = ⟨l0.blk, l0.base + (off + l * sizeT P e), none⟩) := by
        intro m l hm hne
        rw [if_neg (by omega), ha (by omega), addr_add, Nat.add_assoc]
      split at h
      · rename_i k
        simp only [CapOk] at hc
        subst hc
        obtain ⟨m, hmx, h⟩ := Res.bind_ok h
        obtain ⟨hh, hhi, h⟩ := Res.bind_ok h
        obtain ⟨l, hlo, h⟩ := Res.bind_ok h
        cases h
        have f0 := mx_fact hmx
        have f1 := hi_fact hhi
        have f2 := lo_fact hlo
        have hml : m ≤ cap := by cases mx with | none => simp only [MxOk] at f0; omega | some v => obtain ⟨_, _, h⟩ := f0; exact h
        have hhm : hh ≤ m := by
          cases hi with
          | none => obtain ⟨rfl, rfl⟩ := f1; simp only [MxOk] at f0; omega
          | some v => obtain ⟨_, _, h⟩ := f1; exact h
        have hlh := lo_le f2
        exact ⟨_, hrun a' cap m hh l f0 f1 f2, RelV.sl F (off + l * sizeT P e) (hh - l) (m - l + 1) l0 _ (m - l) hF (haddr m l hml) rfl (by omega)⟩
      · simp only [CapOk] at hc
        split at h
        case h_2 => cases h
        rename_i cs n s' st old hget
        split at h
        · cases h
        rename_i hb
        simp only [Bool.and_eq_true] at hb
        have hs' := Nat_beq hb.1
        have hpos := Nat_blt hb.2
        obtain ⟨l1, hl1, _, _, _, _, _, hls, _, hn, _⟩ := hR.obs F _ hget
        rw [hF] at hl1; cases hl1
        have hhave : (n - off) / sizeT P e ≤ cap := by
          have h1 : n ≤ off + cap * sizeT P e := by rw [hls, hs'] at hc; omega
          have h2 : n - off ≤ cap * sizeT P e := by omega
          exact Nat.div_le_of_le_mul (by rw [Nat.mul_comm]; exact h2)
        simp only at h
        split at h
        · rename_i mv
          obtain ⟨mm, hmx, h⟩ := Res.bind_ok h
          obtain ⟨hh, hhi, h⟩ := Res.bind_ok h
          obtain ⟨l, hlo, h⟩ := Res.bind_ok h
          cases h
          obtain ⟨k, rfl, hmm⟩ := boundR_ok hmx
          have f0 : MxOk (some (Value.int k (Int.ofNat mm))) cap mm := ⟨k, rfl, by omega⟩
          have f1 : HiOk hi (some (Value.int k (Int.ofNat mm))) len mm hh := by
            cases hi with
            | none => simp at hhi
            | some v => exact boundR_ok hhi
          have f2 := lo_fact hlo
          have hhm : hh ≤ mm := by cases hi with | none => simp at hhi | some v => obtain ⟨_, _, h⟩ := f1; exact h
          have hlh := lo_le f2
          exact ⟨_, hrun a' cap mm hh l f0 f1 f2, RelV.sl F (off + l * sizeT P e) (hh - l) (mm - l + 1) l0 _ (mm - l) hF (haddr mm l (by omega)) rfl (by omega)⟩
        · obtain ⟨hh, hhi, h⟩ := Res.bind_ok h
          obtain ⟨l, hlo, h⟩ := Res.bind_ok h
          cases h
          have f1 : HiOk hi none len cap hh := by
            cases hi with
            | none => simp only at hhi; cases hhi; exact ⟨rfl, rfl⟩
            | some v => obtain ⟨k, h1, h2⟩ := boundR_ok hhi; exact ⟨k, h1, by omega⟩
          have f2 := lo_fact hlo
          have hhm : hh ≤ cap := by cases hi with | none => obtain ⟨_, rfl⟩ := f1; exact hle | some v => obtain ⟨_, _, h⟩ := f1; exact h
          have hlh := lo_le f2
          refine ⟨_, hrun a' cap cap hh l rfl f1 f2, RelV.sl F (off + l * sizeT P e) (hh - l) 0 l0 _ (cap - l) hF (haddr cap l (Nat.le_refl _)) ?_ (by omega)⟩
          show off + l * sizeT P e + (cap - l) * l0.s = l0.hi
          rw [hls, hs', ← hc, hls, hs', Nat.add_assoc, ← Nat.add_mul]
          congr 2
          omega
  · rename_i n e a hs
    simp only at h
    split at h
    · cases h
    rename_i hk
    obtain ⟨m, hmx, h⟩ := Res.bind_ok h
    obtain ⟨hh, hhi, h⟩ := Res.bind_ok h
    obtain ⟨l, hlo, h⟩ := Res.bind_ok h
    cases h
    have f0 := mx_fact hmx
    have f1 := hi_fact hhi
    have f2 := lo_fact hlo
    cases hr with
    | ptr F off l0 hF =>
      have hml : m ≤ n := by cases mx with | none => simp only [MxOk] at f0; omega | some v => obtain ⟨_, _, h⟩ := f0; exact h
      have hhm : hh ≤ m := by
        cases hi with
        | none => obtain ⟨rfl, rfl⟩ := f1; simp only [MxOk] at f0; omega
        | some v => obtain ⟨_, _, h⟩ := f1; exact h
      have hlh := lo_le f2
      have hb := sliceBounds_run (P := P) (isS := false) (len := n) (cap := n) (m := m) rlo rhi rmx f0 f1 f2 w
      refine ⟨.slice (some (if m = l then ⟨l0.blk, l0.base + off, none⟩ else ⟨l0.blk, l0.base + (off + l * sizeT P e), none⟩)) (hh - l) (m - l), ?_, RelV.sl F (off + l * sizeT P e) (hh - l) (m - l + 1) l0 _ (m - l) hF (fun hne => by rw [if_neg (by omega)]) rfl (by omega)⟩
      unfold Instr.sliceAt
      simp only [Sem.run_bind, run_underlying hs, Result.andThen_ok, Instr.sureAddr, Sem.run_pure, hb, run_sizeT hk, addr_add, Nat.add_assoc]
  · cases h

theorem slice_ok (hR : Rel φ S w) {t : TypeId} {x : Operand} {lo hi mx : Option Operand} (ho : ORel φ T ρ ([x] ++ lo.toList ++ hi.toList ++ mx.toList)) (h : oSlice t x lo hi mx P t0 T S = .ok act) :
    ActOk P φ S w ((execOp ρ ⟨dst, .slice t x lo hi mx, ty, pos, aft, gd⟩).run P w) act := by
  unfold oSlice at h
  obtain ⟨xv, hx, h1⟩ := Res.bind_ok h
  obtain ⟨lov, hlo, h2⟩ := Res.bind_ok h1
  obtain ⟨hiv, hhi, h3⟩ := Res.bind_ok h2
  obtain ⟨mxv, hmx, h4⟩ := Res.bind_ok h3
  obtain ⟨u, hu, rfl⟩ := un1_ok h4
  obtain ⟨v', hrun, hr⟩ := sliceR_sound hR hu (ho x (by simp) xv hx) (opndO_rel (fun y hy => ho y (by simp at hy ⊢; simp [hy])) hlo) (opndO_rel (fun y hy => ho y (by simp at hy ⊢; simp [hy])) hhi) (opndO_rel (fun y hy => ho y (by simp at hy ⊢; simp [hy])) hmx)
  exact ⟨v', by simp only [execOp, Sem.run_bind, hrun, Result.andThen_ok, Sem.run_pure], hr⟩
end
end
end Go.Ev
namespace Go.Ev
section
variable {P : Program} {φ : Phi} {S : St} {w : World} {T : Ts} {ρ : Operand → Value}

theorem row_cells (hR : Rel φ S w) {F m s n off : Nat} {cs : Tr Value} {st : Bool} {old : Option Nat} {l : Loc} (hg : S.get F = some (.row cs m s st old)) (hl : φ F = some l) (hn : off + n ≤ m) :
    ∃ ys : List Value, ys.length = n ∧ (∀ i, i < n → ∃ x y, cs.get (off + i) = some x ∧ ys[i]? = some y ∧ RelV φ x y) ∧ (loadCells ⟨l.blk, l.base + off, none⟩ n).run P w = .ok ys.toArray w := by
  obtain ⟨l1, hl1, c, e, fz, hc, hfz, hs, hhi, hnn, hcells⟩ := hR.obs F _ hg
  rw [hl] at hl1; cases hl1
  obtain ⟨ys, hys⟩ : ∃ ys : List Value, ys = (List.range n).map fun i => c.getD (l.base + off + i) undef := ⟨_, rfl⟩
  have hlen : ys.length = n := by rw [hys]; simp
  have hget : ∀ i, i < n → ∃ x y, cs.get (off + i) = some x ∧ ys[i]? = some y ∧ c[l.base + off + i]? = some y ∧ RelV φ x y := by
    intro i hi
    obtain ⟨x, y, hx, hy, hr⟩ := hcells (off + i) (by omega)
    rw [← Nat.add_assoc] at hy
    refine ⟨x, y, hx, ?_, hy, hr⟩
    rw [hys]; simp [hi, hy]
  refine ⟨ys, hlen, fun i hi => let ⟨x, y, a, b, _, d⟩ := hget i hi; ⟨x, y, a, b, d⟩, ?_⟩
  rw [← hlen]
  refine run_loadCells_list w _ ys ?_
  intro j v hv
  have hj : j < n := by have := (List.getElem?_eq_some_iff.1 hv).1; omega
  obtain ⟨x, y, hx, hy, hcy, hr⟩ := hget j hj
  rw [hv] at hy; cases hy
  rw [addr_add]
  simp [World.cell?, hc, hcy]

/-- A tree whose first n cells stand for a list. -/
def TreeRel (φ : Phi) (t : Tr Value) (ys : List Value) : Prop := ∀ i, i < ys.length → ∃ x y, t.get i = some x ∧ ys[i]? = some y ∧ RelV φ x y

theorem RelL.tree {l l' : List Value} (h : RelL φ l l') : TreeRel φ (Tr.pushL .lf 0 l) l' := by
  intro i hi
  have hl := h.length
  have hi2 : i < l.length := by omega
  obtain ⟨x, hx⟩ : ∃ x, l[i]? = some x := ⟨l[i], List.getElem?_eq_getElem hi2⟩
  obtain ⟨y, hy, hr⟩ := h.get hx
  refine ⟨x, y, ?_, hy, hr⟩
  rw [Tr.get_pushL, if_pos (by omega)]
  simpa using hx

theorem TreeRel.mono {φ' : Phi} (hl : φ.le φ') {t : Tr Value} {ys : List Value} (h : TreeRel φ t ys) : TreeRel φ' t ys :=
  fun i hi => let ⟨x, y, a, b, r⟩ := h i hi; ⟨x, y, a, b, r.mono hl⟩

theorem TreeRel.push {t : Tr Value} {ys new new' : List Value} (h : TreeRel φ t ys) (hn : RelL φ new new') {k : Nat} (hk : k = ys.length) : TreeRel φ (t.pushL k new) (ys ++ new') := by
  intro i hi
  have hl := hn.length
  rw [Tr.get_pushL]
  by_cases h1 : i < ys.length
  · rw [if_neg (by omega)]
    obtain ⟨x, y, a, b, r⟩ := h i h1
    exact ⟨x, y, a, by rw [List.getElem?_append_left h1]; exact b, r⟩
  · have h2 : i < ys.length + new.length := by simp at hi; omega
    rw [if_pos (by omega)]
    obtain ⟨x, hx⟩ : ∃ x, new[i - k]? = some x := ⟨new[i - k]'(by omega), by rw [List.getElem?_eq_getElem]⟩
    obtain ⟨y, hy, hr⟩ := hn.get hx
    refine ⟨x, y, hx, ?_, hr⟩
    rw [List.getElem?_append_right (by omega), ← hk]
    exact hy

theorem rowOf_sound (hR : Rel φ S w) {size len c : Nat} {base : Option Addr} {s' : Value} {t : Tr Value} (hr : RelV φ (.slice base len c) s') (h : rowOf S size (.slice base len c) = .ok t) :
    ∃ ys : List Value, ys.length = len * size ∧ TreeRel φ t ys ∧ (Builtin.firstCells size len s').run P w = .ok ⟨ys⟩ w := by
  cases base with
  | none =>
    obtain ⟨rfl, rfl, rfl⟩ := slice_nil hr
    simp only [rowOf] at h; cases h
    exact ⟨[], by simp, fun i hi => by simp at hi, rfl⟩
  | some a =>
    obtain ⟨F, off, l, a', cap, rfl, rfl, hF, ha, hc, hle⟩ := slice_addr hr
    simp only [rowOf] at h
    have hfirst : ∀ ys : List Value, ys.length = len * size → (loadCells ⟨l.blk, l.base + off, none⟩ (len * size)).run P w = .ok ys.toArray w → (Builtin.firstCells size len (.slice (some a') len cap)).run P w = .ok ⟨ys⟩ w := by
      intro ys hlen hrun
      simp only [Builtin.firstCells]
      by_cases hz : len * size = 0
      · have : ys = [] := List.length_eq_zero_iff.1 (by omega)
        subst this
        rw [hz]
        rfl
      · have hm0 : len ≠ 0 := fun e => by subst e; simp at hz
        rw [ha (by omega)]
        exact hrun
    split at h
    · rename_i hz
      have h0 := Nat_beq hz
      split at h
      case h_2 => cases h
      rename_i cs m s st old hget
      split at h
      case h_2 => cases h
      rename_i hb
      have hb := Nat_ble hb
      cases h
      have h0' : off = 0 := h0
      obtain ⟨ys, hlen, hrel, hrun⟩ := row_cells (P := P) (n := len * size) (off := off) hR hget hF (by rw [h0', Nat.zero_add]; exact hb)
      refine ⟨ys, hlen, ?_, hfirst ys hlen hrun⟩
      intro i hi
      have := hrel i (by omega)
      rw [h0', Nat.zero_add] at this
      exact this
    · obtain ⟨cs, hcs, h⟩ := Res.bind_ok h
      cases h
      obtain ⟨cs', hrel, hlen, _, hrun⟩ := loadRow_sound P hR hcs hF
      have hl := hrel.length
      have hlen' : cs'.length = len * size := by rw [hl, hlen]; rfl
      exact ⟨cs', hlen', hrel.tree, hfirst cs' hlen' hrun⟩

/-- A row told by a tree. -/
theorem tree_ob {w' : World} {l : Loc} {t : Tr Value} {ys : List Value} {n s : Nat} {st : Bool} {old : Option Nat} {c : Array Value} {e : TypeId} {fz : Nat × Nat} (hh : w'.heap[l.blk]? = some (.cells c e fz)) (hfz : unfrozen fz c.size)
    (hs : l.s = s) (hhi : l.base + l.hi ≤ c.size) (hn : n ≤ l.hi) (hlen : ys.length = n) (hc : ∀ (i : Nat) v, ys[i]? = some v → c[l.base + i]? = some v) (hr : TreeRel φ t ys) : RelOb φ w' l (.row t n s st old) := by
  refine ⟨c, e, fz, hh, hfz, hs, hhi, hn, fun i hi => ?_⟩
  obtain ⟨x, y, hx, hy, hxy⟩ := hr i (by omega)
  exact ⟨x, y, hx, hc i y hy, hxy⟩

/-! ### append, as the model runs it -/

section
variable {sT xT e : TypeId} {i : TypeInfo} {zv : Value}

theorem strOrSlice_some {t : TypeId} (h : strOrSlice P t = true) : (∃ e, P.underlying t = some (.slice e)) ∨ P.underlying t = some .string := by
  unfold strOrSlice at h
  split at h
  · exact .inl ⟨_, by assumption⟩
  · exact .inr (by assumption)
  · cases h

theorem append_in (hs : P.underlying sT = some (.slice e)) (hi : P.info? e = some i) (hx : strOrSlice P xT = true) {rest : List TypeId} {ty : TypeId} {base : Option Addr} {sLen sCap n : Nat} {x : Value} {new : List Value} {w w' : World}
    (hlen : (Builtin.lenOf x).run P w = .ok n w) (hcap : sLen + n ≤ sCap) (hnew : (Builtin.firstCells i.size n x).run P w = .ok ⟨new⟩ w)
    (hst : ∀ a, base = some a → (storeCells (a.add (sLen * i.size)) new).run P w = .ok () w') (hnil : base = none → w' = w) :
    (Builtin.append_ ⟨sT :: xT :: rest⟩ ty #[.slice base sLen sCap, x]).run P w = .ok (.slice base (sLen + n) sCap) w' := by
  rcases strOrSlice_some hx with ⟨d, hx⟩ | hx
  all_goals
    cases base with
    | none =>
      have := hnil rfl; subst this
      simp [Builtin.append_, run_underlying hs, run_underlying hx, run_size hi, hlen, hcap, hnew]
    | some a =>
      have hst := hst a rfl
      simp [Builtin.append_, run_underlying hs, run_underlying hx, run_size hi, hlen, hcap, hnew, hst]

theorem append_grow (hs : P.underlying sT = some (.slice e)) (hi : P.info? e = some i) (hz : i.zero = some zv) (hx : strOrSlice P xT = true) {rest : List TypeId} {ty : TypeId} {base : Option Addr} {sLen sCap n : Nat} {x : Value} {old new : List Value} {w : World}
    (hlen : (Builtin.lenOf x).run P w = .ok n w) (hcap : sCap < sLen + n) (hsmall : (sLen + n) * (i.bytes + 1) ≤ 1000000000)
    (hold : (Builtin.firstCells i.size sLen (.slice base sLen sCap)).run P w.drew = .ok ⟨old⟩ w.drew)
    (hnew : (Builtin.firstCells i.size n x).run P w.drew = .ok ⟨new⟩ w.drew) :
    (Builtin.append_ ⟨sT :: xT :: rest⟩ ty #[.slice base sLen sCap, x]).run P w =
      .ok (.slice (some ⟨w.heap.size, 0, none⟩) (sLen + n) (grownCap w (sLen + n) sCap e)) (w.drew.alloc (.cells ((⟨old⟩ : Array Value) ++ ⟨new⟩ ++ Builtin.zeroCells zv.cells (grownCap w (sLen + n) sCap e - (sLen + n))) e)) := by
  have hn1 : sLen + n ≤ 1000000000 := by
    have : (sLen + n) * 1 ≤ (sLen + n) * (i.bytes + 1) := Nat.mul_le_mul_left _ (by omega)
    omega
  have hfit := growslice_fits (need := sLen + n) (old := sCap) (bytes := i.bytes) hcap (by rw [Nat.mul_add] at hsmall; omega)
  have hn : ¬ (sLen + n ≤ sCap) := by omega
  have h63' : ¬ (9223372036854775807 < ((sLen : Int) + (n : Int))) := by omega
  have h48' : ¬ (281474976710656 < Builtin.nextslicecap (sLen + n) sCap * i.bytes) := by omega
  rcases strOrSlice_some hx with ⟨d, hx⟩ | hx
  all_goals
    simp [Builtin.append_, run_underlying hs, run_underlying hx, sizeOf, typeInfo, zeroValue, hi, hz, hlen, hn, h63', h48', Question.forced, hold, hnew, Go.newRow, grownCap]
    try (congr 2; apply Array.ext'; simp [List.append_assoc])

end
end
end Go.Ev
namespace Go.Ev
section
variable {P : Program} {φ : Phi} {S : St} {w : World} {T : Ts} {ρ : Operand → Value}

/-- A row is told to be stale; what was ahead of it is let go. -/
theorem stale_rel (hR : Rel φ S w) {F m s : Nat} {cs : Tr Value} {old : Option Nat} (hg : S.get F = some (.row cs m s false old)) : Rel φ ((S.drop old).put F (.row cs m s true none)) w := by
  have hget : ∀ G, ((S.drop old).put F (.row cs m s true none)).get G = if G = F then some (.row cs m s true none) else if old = some G then none else S.get G := by
    intro G; rw [St.get_put, St.get_drop]
  have hother : ∀ G ob, G ≠ F → ((S.drop old).put F (.row cs m s true none)).get G = some ob → S.get G = some ob ∧ old ≠ some G := by
    intro G ob hne hG
    rw [hget, if_neg hne] at hG
    split at hG
    · cases hG
    · exact ⟨hG, by assumption⟩
  refine ⟨?_, ?_, hR.ids, ?_⟩
  · intro G ob hG
    by_cases hne : G = F
    · subst hne
      rw [hget, if_pos rfl] at hG; cases hG
      obtain ⟨l, hl, hob⟩ := hR.obs _ _ hg
      exact ⟨l, hl, hob⟩
    · exact hR.obs G ob (hother G ob hne hG).1
  · intro A B obA obB lA lB hne hA hB hlA hlB heq
    by_cases eA : A = F
    · subst eA
      rw [hget, if_pos rfl] at hA; cases hA
      obtain ⟨hB', ho⟩ := hother B obB (Ne.symm hne) hB
      have := hR.excl A B _ obB lA lB hne hg hB' hlA hlB heq
      cases obB with
      | row => intro h; cases h
      | map => exact this
      | iter => exact this
      | siter => exact this
    · obtain ⟨hA', hoA⟩ := hother A obA eA hA
      by_cases eB : B = F
      · subst eB
        rw [hget, if_pos rfl] at hB; cases hB
        have := hR.excl A B obA _ lA lB hne hA' hg hlA hlB heq
        cases obA with
        | row => exact this
        | map => exact this
        | iter => exact this
        | siter => exact this
      · exact hR.excl A B obA obB lA lB hne hA' (hother B obB eB hB).1 hlA hlB heq
  · intro G ob hG
    rw [St.next_put, St.next_drop]
    by_cases hne : G = F
    · subst hne; exact hR.dom _ _ hg
    · exact hR.dom G ob (hother G ob hne hG).1

theorem stale_good (hR : Rel φ S w) {F m s : Nat} {cs : Tr Value} {old : Option Nat} (hg : S.get F = some (.row cs m s false old)) : Good φ φ S ((S.drop old).put F (.row cs m s true none)) w w where
  ext := fun _ _ h => h
  rng := fun F l a b => by simp [a] at b
  nxt := by rw [St.next_put, St.next_drop]; exact Nat.le_refl _
  rel := stale_rel hR hg
  os := rfl
  tape := rfl
  output := rfl
  size := Nat.le_refl _
  frame := fun _ _ _ => rfl
  blk := fun F l a b => by simp [a] at b
  dom := by
    intro G ob hG
    rw [St.get_put, St.get_drop] at hG
    split at hG
    · rename_i e; subst e; exact .inl ⟨_, hg⟩
    · split at hG
      · cases hG
      · exact .inl ⟨ob, hG⟩

/-- Two rows in one block: the newer one holds what the elder one holds, and more behind it. -/
theorem share_good (hR : Rel φ S w) {F m s m2 : Nat} {cs cs2 : Tr Value} {old : Option Nat} {l l' : Loc} {c c' : Array Value} {e : TypeId} {fz : Nat × Nat} (hg : S.get F = some (.row cs m s false old)) (hl : φ F = some l)
    (hc : w.heap[l.blk]? = some (.cells c e fz)) (hsz : c'.size = c.size) (hsame : ∀ i, i < l.base + m → c'[i]? = c[i]?) (hf : φ S.next = none) (hblk : l'.blk = l.blk)
    (hob : RelOb (φ.put S.next l') (w.setRow l.blk c') l' (.row cs2 m2 s false (some F))) (hend : l.base + m ≤ l'.base + m2) :
    Good φ (φ.put S.next l') S (((S.drop old).put F (.row cs m s true none)).new (.row cs2 m2 s false (some F))) w (w.setRow l.blk c') := by
  have hle : φ.le (φ.put S.next l') := Phi.put_le hf
  have hFn : F < S.next := hR.dom _ _ hg
  have hn1 : ((S.drop old).put F (.row cs m s true none)).next = S.next := by rw [St.next_put, St.next_drop]
  have hS1 := stale_rel hR hg
  have hget1 : ∀ G, ((S.drop old).put F (.row cs m s true none)).get G = if G = F then some (.row cs m s true none) else if old = some G then none else S.get G := by
    intro G; rw [St.get_put, St.get_drop]
  have hget : ∀ G, (((S.drop old).put F (.row cs m s true none)).new (.row cs2 m2 s false (some F))).get G = if G = S.next then some (.row cs2 m2 s false (some F)) else ((S.drop old).put F (.row cs m s true none)).get G := by
    intro G; rw [St.get_new, hn1]
  have hput : ∀ G k, G ≠ S.next → (φ.put S.next l') G = some k → φ G = some k := fun G k hne hk => by simpa [Phi.put, hne] using hk
  have halone : ∀ G ob lG, G ≠ F → ((S.drop old).put F (.row cs m s true none)).get G = some ob → φ G = some lG → lG.blk ≠ l.blk := by
    intro G ob lG hne hG hlG heq
    rw [hget1, if_neg hne] at hG
    split at hG
    · cases hG
    · rename_i ho
      have := hR.excl F G _ ob l lG (Ne.symm hne) hg hG hl hlG heq.symm
      cases ob with
      | row => exact ho (this rfl).1
      | map => exact this
      | iter => exact this
      | siter => exact this
  have hblk2 : ∀ b, b ≠ l.blk → (w.setRow l.blk c').heap[b]? = w.heap[b]? := fun b hb => setRow_other w _ b _ hb
  refine ⟨hle, ?_, by rw [St.next_new, hn1]; omega, ⟨?_, ?_, ?_, ?_⟩, rfl, rfl, rfl, by simp, ?_, ?_, ?_⟩
  · intro G k hG hk
    by_cases e : G = S.next
    · rw [St.next_new, hn1]; omega
    · rw [hput G k e hk] at hG; cases hG
  · intro G ob hG
    by_cases eG : G = S.next
    · subst eG
      rw [hget, if_pos rfl] at hG; cases hG
      exact ⟨l', Phi.put_same _ _ _, hob⟩
    · rw [hget, if_neg eG] at hG
      by_cases hGF : G = F
      · subst hGF
        rw [hget1, if_pos rfl] at hG; cases hG
        obtain ⟨l1, hl1, c0, e0, fz0, hc0, hfz0, hs0, hhi0, hn0, hcells0⟩ := hR.obs _ _ hg
        rw [hl] at hl1; cases hl1
        rw [hc] at hc0; cases hc0
        refine ⟨l, hle _ _ hl, c', e, fz, setRow_heap w _ c _ e fz hc, by rw [hsz]; exact hfz0, hs0, by rw [hsz]; exact hhi0, hn0, ?_⟩
        intro i hi
        obtain ⟨x, y, hx, hy, hr⟩ := hcells0 i hi
        exact ⟨x, y, hx, by rw [hsame _ (by omega)]; exact hy, hr.mono hle⟩
      · obtain ⟨lG, hlG, hr⟩ := hS1.obs G ob hG
        exact ⟨lG, hle _ _ hlG, (hr.mono hle).same (hblk2 _ (halone G ob lG hGF hG hlG))⟩
  · intro A B obA obB lA lB hne hA hB hlA hlB heq
    by_cases eA : A = S.next
    · subst eA
      rw [Phi.put_same] at hlA; cases hlA
      rw [hget, if_pos rfl] at hA; cases hA
      have eB : B ≠ S.next := Ne.symm hne
      rw [hget, if_neg eB] at hB
      have hlB' := hput B lB eB hlB
      by_cases hBF : B = F
      · subst hBF
        rw [hget1, if_pos rfl] at hB; cases hB
        rw [hl] at hlB'; cases hlB'
        intro _
        exact ⟨rfl, hend⟩
      · exact absurd (by rw [← hblk, heq]) (halone B obB lB hBF hB hlB')
    · rw [hget, if_neg eA] at hA
      have hlA' := hput A lA eA hlA
      by_cases eB : B = S.next
      · subst eB
        rw [Phi.put_same] at hlB; cases hlB
        rw [hget, if_pos rfl] at hB; cases hB
        by_cases hAF : A = F
        · subst hAF
          rw [hget1, if_pos rfl] at hA; cases hA
          intro h; cases h
        · exact absurd (by rw [heq, hblk]) (halone A obA lA hAF hA hlA')
      · rw [hget, if_neg eB] at hB
        exact hS1.excl A B obA obB lA lB hne hA hB hlA' (hput B lB eB hlB) heq
  · intro G k hk
    simp only [setRow_size]
    by_cases e : G = S.next
    · subst e; rw [Phi.put_same] at hk; cases hk; rw [hblk]; exact hR.ids _ _ hl
    · exact hR.ids G k (hput G k e hk)
  · intro G ob hG
    rw [St.next_new, hn1]
    by_cases e : G = S.next
    · omega
    · rw [hget, if_neg e] at hG
      have := hS1.dom G ob hG
      rw [hn1] at this
      omega
  · intro b hb hn
    exact hblk2 b (fun e => hn F _ l hg hl e.symm)
  · intro G k hG hk
    by_cases e : G = S.next
    · subst e; rw [Phi.put_same] at hk; cases hk
      exact .inr ⟨F, _, l, hg, hl, hblk.symm⟩
    · rw [hput G k e hk] at hG; cases hG
  · intro G ob hG
    by_cases e : G = S.next
    · subst e; exact .inr hf
    · rw [hget, if_neg e] at hG
      exact (stale_good hR hg).dom G ob hG

theorem zeroCells_size (z : Array Value) (n : Nat) : (Builtin.zeroCells z n).size = n * z.size := by simp [Builtin.zeroCells]

theorem Free.sub {a b c d : Nat} (h : Free φ a b) (h1 : a ≤ c) (h2 : d ≤ b) : Free φ c d := fun F x y => h F (by omega) (by omega)

/-- The grown copy of a slice. -/
theorem grow_good (o : Option Nat) (hR : Rel φ S w) (hf : φ S.next = none) {t : Tr Value} {old new : List Value} {new0 : List Value} {zv : Value} {e : TypeId} {len n size cap : Nat} (ht : TreeRel φ t old) (hn : RelL φ new0 new) (hol : old.length = len * size) (hnl : new0.length = n * size)
    (hz : zv.cells.size = size) (hcap : len + n ≤ cap) :
    Good φ (φ.put S.next ⟨w.heap.size, 0, cap * size, size⟩) S (S.new (.row (t.pushL (len * size) new0) ((len + n) * size) size false o)) w (w.drew.alloc (.cells ((⟨old⟩ : Array Value) ++ ⟨new⟩ ++ Builtin.zeroCells zv.cells (cap - (len + n))) e)) ∧
    RelV (φ.put S.next ⟨w.heap.size, 0, cap * size, size⟩) (.slice (some ⟨S.next, 0, none⟩) (len + n) 0) (.slice (some ⟨w.heap.size, 0, none⟩) (len + n) cap) := by
  have hle := Phi.put_le (l := ⟨w.heap.size, 0, cap * size, size⟩) hf
  have hsz : ((⟨old⟩ : Array Value) ++ ⟨new⟩ ++ Builtin.zeroCells zv.cells (cap - (len + n))).size = cap * size := by
    simp only [Array.size_append, zeroCells_size, hz, List.size_toArray]
    rw [hn.length, hol, hnl, ← Nat.add_mul, ← Nat.add_mul]
    congr 1
    omega
  have hlen : (old ++ new).length = (len + n) * size := by rw [List.length_append, hn.length, hol, hnl, Nat.add_mul]
  refine ⟨new_good hR hf rfl rfl rfl rfl (push_size w.drew _) (fun b hb => push_old w.drew _ b hb) ?_, ?_⟩
  · refine tree_ob (ys := old ++ new) (push_last w.drew _) (Or.inl (Nat.le_refl _)) rfl ?_ ?_ hlen ?_ ((ht.push hn hol.symm).mono hle)
    · simp only [Nat.zero_add]; exact Nat.le_of_eq hsz.symm
    · exact Nat.mul_le_mul_right _ hcap
    · intro i v hv
      have hi : i < (old ++ new).length := (List.getElem?_eq_some_iff.1 hv).1
      rw [Nat.zero_add, Array.getElem?_append_left (by simpa using hi)]
      simpa using hv
  · refine RelV.sl S.next 0 (len + n) 0 _ _ cap (Phi.put_same _ _ _) (fun _ => rfl) ?_ hcap
    simp

theorem zlen_some {e : TypeId} (h : zlenOk P e = true) : ∃ i zv, P.info? e = some i ∧ i.zero = some zv ∧ zv.cells.size = i.size := by
  unfold zlenOk at h
  split at h
  · rename_i z hz
    obtain ⟨i, v, hi, hv, rfl⟩ := zeroT_some hz
    have := Nat_beq h
    rw [sizeT_eq hi] at this
    exact ⟨i, v, hi, hv, by simpa using this⟩
  · cases h

theorem empty_src {x x' : Value} (hx : RelV φ x x') (hn : lenV x = .ok 0) (w : World) : (Builtin.lenOf x').run P w = .ok 0 w ∧ ∀ size, (Builtin.firstCells size 0 x').run P w = .ok ⟨[]⟩ w := by
  cases hx with
  | sl F off n c l a cap hF ha hc hle =>
    simp only [lenV] at hn; cases hn
    exact ⟨rfl, fun size => by simp [Builtin.firstCells, loadCells, loadCellsFrom]⟩
  | sl0 => exact ⟨rfl, fun size => rfl⟩
  | string s =>
    simp only [lenV, size_data] at hn
    have hs0 : s.size = 0 := by injection hn
    refine ⟨by simp [Builtin.lenOf, hs0], fun size => ?_⟩
    simp only [Builtin.firstCells, Sem.run_pure]
    congr 1
    apply Array.ext'
    simp
  | _ => simp [lenV] at hn

theorem append_sound (hR : Rel φ S w) {sT xT : TypeId} {rest : List TypeId} {ty : TypeId} {s x s' x' : Value} {v : Value} {S' : St} (h : appendR P S (sT :: xT :: rest) s x = .ok (v, S')) (hs : RelV φ s s') (hx : RelV φ x x') (hfree : Free φ S.next S'.next) :
    ∃ φ' w' v', (Builtin.append_ ⟨sT :: xT :: rest⟩ ty #[s', x']).run P w = .ok v' w' ∧ Good φ φ' S S' w w' ∧ RelV φ' v v' := by
  unfold appendR at h
  simp only at h
  split at h
  · cases h
  · cases h
  rename_i e he hxT
  have hsT := elemT_some he
  obtain ⟨n, hn, h1⟩ := Res.bind_ok h
  clear h
  revert h1
  intro h
  split at h
  case h_2 => cases h
  rename_i base len c
  split at h
  · cases h
  rename_i hg
  simp only [Bool.and_eq_true] at hg
  have hpos := Nat_blt hg.1
  obtain ⟨i, zv, hi, hzv, hzl⟩ := zlen_some hg.2
  have hsi : sizeT P e = i.size := sizeT_eq hi
  have hbi : bytesT P e = i.bytes := by unfold bytesT; rw [hi]
  rw [hsi] at hpos
  split at h
  · -- nothing is appended
    rename_i hz
    have hz := Nat_beq hz
    subst hz
    cases h
    obtain ⟨h1, h2⟩ := empty_src (P := P) hx hn w
    cases base with
    | none =>
      obtain ⟨rfl, rfl, rfl⟩ := slice_nil hs
      exact ⟨φ, w, _, append_in hsT hi hxT h1 (Nat.le_refl _) (h2 _) (fun a ha => by cases ha) (fun _ => rfl), Good.refl hR, .sl0⟩
    | some a =>
      have hs2 := hs
      obtain ⟨F, off, l, a', cap, rfl, rfl, hF, ha, hc, hle⟩ := slice_addr hs
      exact ⟨φ, w, _, append_in (w' := w) hsT hi hxT h1 (by omega) (h2 _) (fun a ha => by simp [storeCells]) (fun _ => rfl), Good.refl hR, hs2⟩
  · rename_i hnz
    have hnz := Nat_beq_false hnz
    obtain ⟨new, hnew, h⟩ := Res.bind_ok h
    split at h
    · cases h
    rename_i hb
    simp only [Bool.and_eq_true] at hb
    have hsmall := Nat_ble hb.1
    have hnl := Nat_beq hb.2
    rw [hbi] at hsmall
    rw [hsi] at hnl hnew h
    obtain ⟨new', hrel, hlen, hfirst, _⟩ := sliceCells_sound (P := P) hR hx hnew hn
    have hRd : Rel φ S w.drew := hR.world rfl
    obtain ⟨new2, hrel2, hlen2, hfirst2, _⟩ := sliceCells_sound (P := P) hRd hx hnew hn
    -- the grown copy
    have hfresh : ∀ (sCap : Nat) (base' : Option Addr) (t : Tr Value), RelV φ (.slice base len c) (.slice base' len sCap) → rowOf S i.size (.slice base len c) = .ok t → sCap < len + n → φ S.next = none →
        ∃ w' v', (Builtin.append_ ⟨sT :: xT :: rest⟩ ty #[.slice base' len sCap, x']).run P w = .ok v' w' ∧
          Good φ (φ.put S.next ⟨w.heap.size, 0, grownCap w (len + n) sCap e * i.size, i.size⟩) S (S.new (.row (t.pushL (len * i.size) new) ((len + n) * i.size) i.size false none)) w w' ∧
          RelV (φ.put S.next ⟨w.heap.size, 0, grownCap w (len + n) sCap e * i.size, i.size⟩) (.slice (some ⟨S.next, 0, none⟩) (len + n) 0) v' := by
      intro sCap base' t hrs hrow hcap hf
      obtain ⟨ys, hyl, hyt, hyrun⟩ := rowOf_sound (P := P) hRd hrs hrow
      have hrun := append_grow (ty := ty) (rest := rest) (base := base') hsT hi hzv hxT hlen hcap hsmall hyrun (hfirst2 hnl)
      have hcl : len + n ≤ grownCap w (len + n) sCap e := by unfold grownCap; simp only [Question.cut]; omega
      obtain ⟨h1, h2⟩ := grow_good none (t := t) (zv := zv) (e := e) hR hf hyt hrel2 hyl hnl hzl hcl
      exact ⟨_, _, hrun, h1, h2⟩
    -- in place
    have hin : ∀ (F off : Nat) (l : Loc) (a' : Addr) (sCap : Nat) (S' : St), φ F = some l → a' = ⟨l.blk, l.base + off, none⟩ → len + n ≤ sCap → writeRow S F (off + len * i.size) new = .ok S' →
        ∃ w', (Builtin.append_ ⟨sT :: xT :: rest⟩ ty #[.slice (some a') len sCap, x']).run P w = .ok (.slice (some a') (len + n) sCap) w' ∧ Good φ φ S S' w w' := by
      intro F off l a' sCap S' hF ha hcap hw
      obtain ⟨w', hrun, _, hgood⟩ := writeRow_sound P hR hw hF hrel
      refine ⟨w', append_in hsT hi hxT hlen hcap (hfirst hnl) (fun a2 ha2 => ?_) (fun h => by cases h), hgood⟩
      cases ha2
      rw [ha, addr_add, Nat.add_assoc]
      exact hrun
    cases base with
    | none =>
      obtain ⟨rfl, rfl, rfl⟩ := slice_nil hs
      simp only at h
      obtain ⟨t, ht, h⟩ := Res.bind_ok h
      cases h
      have hf : φ S.next = none := hfree _ (Nat.le_refl _) (by rw [St.next_new]; omega)
      obtain ⟨w', v', h1, h2, h3⟩ := hfresh 0 none t .sl0 ht (by omega) hf
      exact ⟨_, w', v', h1, h2, h3⟩
    | some a =>
      have hs2 := hs
      obtain ⟨F, off, l, a', cap, rfl, rfl, hF, ha, hc, hle⟩ := slice_addr hs
      simp only at h
      cases c with
      | succ k =>
        simp only [CapOk] at hc
        subst hc
        simp only at h
        split at h
        · rename_i hle2
          have hle2 := Nat_ble hle2
          obtain ⟨S1, hS1, h⟩ := Res.bind_ok h
          cases h
          obtain ⟨w', hrun, hgood⟩ := hin F off l a' cap _ hF (ha (by omega)) hle2 hS1
          exact ⟨φ, w', _, hrun, hgood, RelV.sl F off (len + n) (cap + 1) l a' cap hF ha rfl hle2⟩
        · rename_i hgt
          have hgt : cap < len + n := by
            apply Classical.byContradiction
            intro hc
            have : Nat.ble (len + n) cap = true := by simp; omega
            rw [this] at hgt; cases hgt
          obtain ⟨t, ht, h⟩ := Res.bind_ok h
          cases h
          have hf : φ S.next = none := hfree _ (Nat.le_refl _) (by rw [St.next_new]; omega)
          obtain ⟨w', v', h1, h2, h3⟩ := hfresh cap (some a') t hs2 ht hgt hf
          exact ⟨_, w', v', h1, h2, h3⟩
      | zero =>
        simp only [CapOk] at hc
        simp only at h
        split at h
        case h_2 => cases h
        rename_i cs m s1 st old hget
        split at h
        · cases h
        rename_i hb2
        simp only [Bool.and_eq_true, Bool.not_eq_true'] at hb2
        have hs1 := Nat_beq hb2.1
        have hst := hb2.2
        subst hst
        subst hs1
        obtain ⟨l1, hl1, cc, ee, fz, hcc, hfz, hls, hhi, hnn, hcells⟩ := hR.obs F _ hget
        rw [hF] at hl1; cases hl1
        rw [hls] at hc
        split at h
        · rename_i hle2
          have hle2 := Nat_ble hle2
          have hcap : len + n ≤ cap := by
            have h1 : (len + n) * i.size ≤ cap * i.size := by omega
            exact Nat.le_of_mul_le_mul_right h1 hpos
          obtain ⟨S1, hS1, h⟩ := Res.bind_ok h
          cases h
          obtain ⟨w', hrun, hgood⟩ := hin F off l a' cap _ hF (ha (by omega)) hcap hS1
          exact ⟨φ, w', _, hrun, hgood, RelV.sl F off (len + n) 0 l a' cap hF ha (by show off + cap * l.s = l.hi; rw [hls]; exact hc) hcap⟩
        · split at h
          · cases h
          rename_i hb3
          simp only [Bool.and_eq_true] at hb3
          have hend := Nat_beq hb3.1
          have hcellok := hb3.2
          obtain ⟨t, ht, h⟩ := Res.bind_ok h
          cases h
          have hn1 : ((S.drop old).put F (.row cs m i.size true none)).next = S.next := by rw [St.next_put, St.next_drop]
          have hf : φ S.next = none := hfree _ (Nat.le_refl _) (by rw [St.next_new, hn1]; omega)
          by_cases hcap : len + n ≤ cap
          · -- there is room: the new row lies where the elder one lies
            have hae := ha (by omega)
            have hend' : off + len * i.size = m := hend
            have hoff : off + (len + n) * i.size ≤ l.hi := by
              have : (len + n) * i.size ≤ cap * i.size := Nat.mul_le_mul_right _ hcap
              omega
            have hnewlen : new'.length = n * i.size := by rw [hrel.length, hnl]
            have hall' : ∀ v ∈ new', isCell v = true := by
              have := hrel.isCell; rw [hcellok] at this; simpa using this
            have hadd : (len + n) * i.size = len * i.size + n * i.size := Nat.add_mul _ _ _
            have hst := run_storeU P l.blk (l.base + (off + len * i.size)) ee fz new' 0 cc w hcc hfz (by omega) hall'
            simp only [Nat.add_zero] at hst
            obtain ⟨ys, hyl, hyt, hyrun⟩ := rowOf_sound (P := P) hR hs2 ht
            obtain ⟨ys2, hyl2, hyt2, hyrun2⟩ := row_cells (P := P) (n := len * i.size) (off := off) hR hget hF (by omega)
            have hrun := append_in (ty := ty) (rest := rest) (base := some a') (sCap := cap) hsT hi hxT hlen hcap (hfirst hnl) (w' := w.setRow l.blk (cc.toList.take (l.base + (off + len * i.size)) ++ new' ++ cc.toList.drop (l.base + (off + len * i.size) + new'.length)).toArray)
              (fun a2 ha2 => by cases ha2; rw [hae, addr_add, Nat.add_assoc]; exact hst) (fun h => by cases h)
            have hys : ys = ys2 := by
              by_cases hz : len * i.size = 0
              · have e1 : ys = [] := List.length_eq_zero_iff.1 (by rw [hyl, hz])
                have e2 : ys2 = [] := List.length_eq_zero_iff.1 (by rw [hyl2, hz])
                rw [e1, e2]
              · have hl0 : len ≠ 0 := fun e => by subst e; simp at hz
                simp only [Builtin.firstCells, hae] at hyrun
                rw [hyrun] at hyrun2
                injection hyrun2 with h1 _
                injection h1
            have hsplen : (cc.toList.take (l.base + (off + len * i.size)) ++ new' ++ cc.toList.drop (l.base + (off + len * i.size) + new'.length)).toArray.size = cc.size := by simp; omega
            have hspl : ∀ j, (cc.toList.take (l.base + (off + len * i.size)) ++ new' ++ cc.toList.drop (l.base + (off + len * i.size) + new'.length)).toArray[j]? = if l.base + (off + len * i.size) ≤ j ∧ j < l.base + (off + len * i.size) + new'.length then new'[j - (l.base + (off + len * i.size))]? else cc[j]? := by
              intro j
              rw [List.getElem?_toArray, splice_get _ _ _ _ (by simp; omega)]
              simp
            have hgood := share_good (cs := cs) (cs2 := t.pushL (len * i.size) new) (m2 := (len + n) * i.size) (l' := ⟨l.blk, l.base + off, l.hi - off, i.size⟩) hR hget hF hcc hsplen
              (fun j hj => by rw [hspl, if_neg (by omega)]) hf rfl
              (by
                refine tree_ob (ys := ys ++ new') (setRow_heap w _ cc _ ee fz hcc) (by rw [hsplen]; exact hfz) rfl (by rw [hsplen]; show l.base + off + (l.hi - off) ≤ cc.size; omega) (by show (len + n) * i.size ≤ l.hi - off; omega)
                  (by rw [List.length_append, hyl, hnewlen, hadd]) ?_ ((hyt.push hrel hyl.symm).mono (Phi.put_le hf))
                intro j v hv
                show _[l.base + off + j]? = _
                rw [hspl]
                by_cases hj : j < ys.length
                · rw [if_neg (by omega)]
                  rw [List.getElem?_append_left hj] at hv
                  -- the elder cells
                  obtain ⟨x2, y2, hx2, hy2, _⟩ := hcells (off + j) (by omega)
                  have hc2 : cc[l.base + off + j]? = some y2 := by rw [Nat.add_assoc]; exact hy2
                  have hload := hyrun2
                  rw [← hys] at hload
                  have := run_loadCells w ⟨l.blk, l.base + off, none⟩ (len * i.size) (fun k => cc.getD (l.base + off + k) undef) (P := P) (fun k hk => by
                    obtain ⟨x3, y3, _, hy3, _⟩ := hcells (off + k) (by omega)
                    rw [addr_add]
                    have : cc[l.base + off + k]? = some y3 := by rw [Nat.add_assoc]; exact hy3
                    simp [World.cell?, hcc, this])
                  rw [hload] at this
                  injection this with h1 _
                  have h2 : ys = (List.range (len * i.size)).map fun k => cc.getD (l.base + off + k) undef := by injection h1
                  rw [h2] at hv
                  have hjl : j < len * i.size := by omega
                  simp [hjl, hc2] at hv
                  rw [hc2, hv]
                · have hjb := (List.getElem?_eq_some_iff.1 hv).1
                  rw [List.length_append] at hjb
                  rw [if_pos (by omega)]
                  rw [List.getElem?_append_right (by omega)] at hv
                  rw [← hv]
                  congr 1
                  omega)
              (by show l.base + m ≤ l.base + off + (len + n) * i.size; omega)
            refine ⟨_, _, _, hrun, hgood, ?_⟩
            rw [hae]
            refine RelV.sl S.next 0 (len + n) 0 _ _ cap (Phi.put_same _ _ _) (fun _ => rfl) ?_ hcap
            show 0 + cap * i.size = l.hi - off
            omega
          · -- there is none: a new block
            have hgood1 := stale_good hR hget
            have hR1 := hgood1.rel
            have hf1 : φ ((S.drop old).put F (.row cs m i.size true none)).next = none := by rw [hn1]; exact hf
            obtain ⟨ys, hyl, hyt, hyrun⟩ := rowOf_sound (P := P) hRd hs2 ht
            have hrun := append_grow (ty := ty) (rest := rest) (base := some a') (sCap := cap) hsT hi hzv hxT hlen (by omega) hsmall hyrun (hfirst2 hnl)
            have hcl : len + n ≤ grownCap w (len + n) cap e := by unfold grownCap; simp only [Question.cut]; omega
            have hle1 : φ.le φ := fun _ _ h => h
            obtain ⟨h1, h2⟩ := grow_good (some F) (t := t) (zv := zv) (e := e) (len := len) (n := n) (size := i.size) (cap := grownCap w (len + n) cap e) hR1 hf1 hyt hrel2 hyl hnl hzl hcl
            rw [hn1] at h1 h2
            exact ⟨_, _, _, hrun, hgood1.trans h1, h2⟩
end
end Go.Ev
