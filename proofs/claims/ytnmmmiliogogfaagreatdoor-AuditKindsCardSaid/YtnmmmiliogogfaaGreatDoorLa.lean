/- A law that tells true and leaves memory as it was meets its row; what values of structs are. -/
import Derived.WalkKit
import Derived.ProofKit
import Derived.OpenShut
import Derived.Carry
import Derived.ChangeBears2
set_option linter.unusedVariables false
set_option linter.unusedSimpArgs false
namespace Go.Proofs.Law
open Go.ChangeShapes Go.WideShapes Go.ChangeAt Go.RowKit
section
variable {P : Program} {H : Type} {enc : TypeId × Value → H} {W W' : World}

theorem below_args (hl : laidOutB P = true) : ∀ {ts : List TypeId} {vs : List Value} {ds : List (DataW H)} {p : List MemPlace}, (ts.all fun t => P.readableRec t && decide (t < P.types.size)) = true →
    DataW.TrodAll enc P W 0 (fun _ => true) true ts vs ds p → Below W.heap.size W W' → (∀ x ∈ p, x.block < W.heap.size) → DataW.TrodAll enc P W' 0 (fun b => decide (b < W.heap.size)) true ts vs ds p
  | [], [], [], p, _, h, _, _ => h
  | [], [], _ :: _, _, _, h, _, _ => h.elim
  | [], _ :: _, _, _, _, h, _, _ => h.elim
  | _ :: _, [], _, _, _, h, _, _ => h.elim
  | _ :: _, _ :: _, [], _, _, h, _, _ => h.elim
  | t :: ts, v :: vs, d :: ds, p, ht, h, hb, hlt => by
    obtain ⟨p1, p2, h1, h2, rfl⟩ := h
    simp only [List.all_cons, Bool.and_eq_true, decide_eq_true_eq] at ht
    exact ⟨p1, p2, Below.trod hl ht.1.1 ht.1.2 h1 hb (fun x hx => hlt x (List.mem_append_left _ hx)), below_args hl ht.2 h2 hb (fun x hx => hlt x (List.mem_append_right _ hx)), rfl⟩

/-- A call of a law that tells true and leaves memory as it was meets its row. -/
theorem post_true (hl : laidOutB P = true) {f : Func} {s : ChangeSpec} {args : Array Value} {ds : List (DataW H)} {before : List MemPlace} {t : TypeId}
    (hvars : s.vars = []) (hrd : (f.params.toList.all fun t => P.readableRec t && decide (t < P.types.size)) = true) (hres : f.resultTypes = #[t]) (ht : P.underlying t = some .bool)
    (hspec : s.fn H ds = { results := [.lit (.bool true)], args := ds, vars := [] })
    (hW : DataW.Whole enc P f.params.toList s.vars false W args.toList ds [] before) (hb : Below W.heap.size W W') :
    s.post enc P f false true false false W args (.bool true) W' := by
  have hW' := hW
  obtain ⟨p, q, hA, hV, rfl, hfz, hnd⟩ := hW
  rw [hvars] at hV
  obtain ⟨_, rfl⟩ := trodVars_none hV
  have hlt : ∀ x ∈ p, x.block < W.heap.size := fun x hx => hW'.lt x (List.mem_append_left _ hx)
  have hA' := below_args (W' := W') hl hrd hA hb hlt
  refine ⟨ds, [], _, [], p, [], hW', ?_, ?_, ?_, ?_, fun h => by cases h⟩
  · rw [List.append_nil, hspec, hres]
    exact trodAll_mk1 (shut_bool ht true)
  · rw [List.append_nil, hspec]; exact hA'
  · rw [List.append_nil, hspec, hvars]; exact rfl
  · exact hb.frame _
end

/-- The cells of a value of several numbers. -/
theorem ints_of_row {P : Program} {w : World} {r : Reach} {base : Nat} {t u : TypeId} {fs : Array Field} {n : Nat} {k : IntKind} (hu : P.underlying t = some (.struct fs)) (hc : P.cellTypes P.depth t = some (List.replicate n u)) (hk : P.underlying u = some (.int k)) (hn : P.cellsOf t = n) {v : Value}
    (h : Value.okWide P w r base t v) : ∃ zs : List Int, zs.length = n ∧ v = .agg ⟨zs.map (Value.int k)⟩ ∧ ∀ z ∈ zs, k.has z := by
  simp only [Value.okWide, hu] at h
  obtain ⟨cs, rfl, hsz, ts, hts, _, hcell⟩ := h
  rw [hc] at hts
  cases hts
  rw [hn] at hsz
  have key : ∀ (i : Nat) (v : Value), cs[i]? = some v → ∃ z, v = Value.int k z ∧ k.has z := by
    intro i v hi
    obtain ⟨u', hu', hok⟩ := hcell i v hi
    have hu'' : u' = u := by
      have hm := List.mem_of_getElem? hu'
      exact List.eq_of_mem_replicate hm
    subst hu''
    unfold Cell.okWide at hok
    rw [hk] at hok
    have hok' : Cell.ok P w r base u' v := by
      revert hok
      cases v <;> simp
    unfold Cell.ok at hok'
    rw [hk] at hok'
    revert hok'
    cases v <;> simp
    rintro rfl hh
    exact ⟨_, ⟨rfl, rfl⟩, hh⟩
  clear hcell
  obtain ⟨l⟩ := cs
  have hsz : l.length = n := hsz
  clear hc hn hu
  have key' : ∀ v ∈ l, ∃ z, v = Value.int k z ∧ k.has z := by
    intro v hv
    obtain ⟨i, hi⟩ := List.mem_iff_getElem?.1 hv
    exact key i v (by simpa using hi)
  clear key
  induction l generalizing n with
  | nil => exact ⟨[], hsz, rfl, by simp⟩
  | cons x l ih =>
    obtain ⟨z, rfl, hz⟩ := key' x (by simp)
    obtain ⟨zs, h1, h2, h3⟩ := ih (n := l.length) rfl ⟨1, by simp⟩ rfl (fun v hv => key' v (List.mem_cons_of_mem _ hv))
    refine ⟨z :: zs, by simp [h1, ← hsz], ?_, ?_⟩
    · simp only [Value.agg.injEq, Array.mk.injEq] at h2
      simp [h2]
    · intro y hy
      rcases List.mem_cons.1 hy with rfl | hy
      · exact hz
      · exact h3 y hy
end Go.Proofs.Law
namespace Go.Proofs.Law
open Go.ChangeShapes Go.WideShapes Go.ChangeAt Go.RowKit
variable {P : Program} {w : World} {r : Reach} {base : Nat} {t : TypeId} {v : Value}

theorem cell_int {k : IntKind} (ht : P.underlying t = some (.int k)) (h : Cell.okWide P w r base t v) : ∃ n, v = .int k n := by
  unfold Cell.okWide at h
  rw [ht] at h
  have h' : Cell.ok P w r base t v := by revert h; cases v <;> simp
  unfold Cell.ok at h'
  rw [ht] at h'
  revert h'
  cases v <;> simp
  rintro rfl _
  exact rfl

theorem cell_bool (ht : P.underlying t = some .bool) (h : Cell.okWide P w r base t v) : ∃ b, v = .bool b := by
  unfold Cell.okWide at h
  rw [ht] at h
  have h' : Cell.ok P w r base t v := by revert h; cases v <;> simp
  unfold Cell.ok at h'
  rw [ht] at h'
  revert h'
  cases v <;> simp

theorem cell_string (ht : P.underlying t = some .string) (h : Cell.okWide P w r base t v) : ∃ s, v = .string s := by
  unfold Cell.okWide at h
  rw [ht] at h
  have h' : Cell.ok P w r base t v := by revert h; cases v <;> simp
  unfold Cell.ok at h'
  rw [ht] at h'
  revert h'
  cases v <;> simp

theorem has_lt {a : Addr} {e : TypeId} {n : Nat} (h : w.has P r base a e n) : a.spot = none ∧ a.block < w.heap.size := by
  obtain ⟨_, h1, row, cells, h2, _⟩ := h
  refine ⟨h1, ?_⟩
  unfold World.shape? at h2
  cases hb : w.heap[a.block]? with
  | none => rw [hb] at h2; simp at h2
  | some o => exact (Array.getElem?_eq_some_iff.1 hb).1

theorem cell_slice {e : TypeId} (ht : P.underlying t = some (.slice e)) (h : Cell.okWide P w r base t v) : v = .slice none 0 0 ∨ ∃ b off n cap, v = .slice (some ⟨b, off, none⟩) n cap ∧ n ≤ cap ∧ b < w.heap.size := by
  unfold Cell.okWide at h
  rw [ht] at h
  have h' : Cell.ok P w r base t v := by revert h; cases v <;> simp
  unfold Cell.ok at h'
  rw [ht] at h'
  cases v with
  | slice a n cap =>
    cases a with
    | none =>
      left
      revert h'
      cases n <;> cases cap <;> simp
    | some a =>
      right
      simp only at h'
      obtain ⟨h1, _, h2⟩ := h'
      obtain ⟨h3, h4⟩ := has_lt h2
      obtain ⟨b, off, s⟩ := a
      simp only at h3 h4
      subst h3
      exact ⟨b, off, n, cap, rfl, h1, h4⟩
  | _ => simp at h'

/-- The cells of a struct's value. -/
theorem struct_cells {fs : Array Field} {ts : List TypeId} {n : Nat} (hu : P.underlying t = some (.struct fs)) (hc : P.cellTypes P.depth t = some ts) (hn : P.cellsOf t = n) (hl : ts.length = n) (h : Value.okWide P w r base t v) :
    ∃ cs : List Value, v = .agg ⟨cs⟩ ∧ cs.length = n ∧ ∀ (i : Nat) c u, cs[i]? = some c → ts[i]? = some u → Cell.okWide P w r base u c := by
  simp only [Value.okWide, hu] at h
  obtain ⟨cs, rfl, hsz, ts', hts, _, hcell⟩ := h
  rw [hc] at hts
  cases hts
  obtain ⟨l⟩ := cs
  have hsz : l.length = n := by rw [← hn]; exact hsz
  refine ⟨l, rfl, hsz, fun i c u hi hu' => ?_⟩
  obtain ⟨u2, hu2, hok⟩ := hcell i c (by simpa using hi)
  have hlt : i < ts.length := by rw [hl, ← hsz]; exact (List.getElem?_eq_some_iff.1 hi).1
  rw [Nat.mod_eq_of_lt hlt, hu'] at hu2
  cases hu2
  exact hok

theorem cons_of {α : Type} {l : List α} {n : Nat} (h : l.length = n + 1) : ∃ a l', l = a :: l' ∧ l'.length = n := by
  cases l with
  | nil => simp at h
  | cons a l => exact ⟨a, l, rfl, by simpa using h⟩
theorem nil_of {α : Type} {l : List α} (h : l.length = 0) : l = [] := List.length_eq_zero_iff.1 h
end Go.Proofs.Law
