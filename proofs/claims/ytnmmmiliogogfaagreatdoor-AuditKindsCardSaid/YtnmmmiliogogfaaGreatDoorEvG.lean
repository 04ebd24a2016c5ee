/- Runs cut into told calls, and ranges over maps in every order, are sound. No condition. -/
import Derived.Test.YtnmmmiliogogfaaGreatDoorEvF
import Derived.Maps.RangeRun
set_option linter.unusedVariables false
set_option linter.unusedSimpArgs false
namespace Go.Ev
/-! A run of one function whose calls are looked up in a list of calls that were told ahead of it: so a long run is cut into parts. -/

/-- A call that is told: its function, its arguments, the memory that it leans on; its value, and memory behind it. -/
structure Ent where
  f : FuncId
  args : List Value
  hp : List (Nat × Ob)
  next : Nat
  v : Value
  hp' : List (Nat × Ob)
  next' : Nat

noncomputable def heapOf : List (Nat × Ob) → Tr Ob
  | [] => .lf
  | p :: l => (heapOf l).set p.1 (some p.2)

noncomputable def Ent.S (x : Ent) : St := ⟨heapOf x.hp, x.next⟩
noncomputable def Ent.S' (x : Ent) : St := ⟨heapOf x.hp', x.next'⟩

/-- Is all of a list there? -/
def subK : List (Nat × Ob) → Tr Ob → Prop → Prop
  | [], _, r => r
  | p :: l, h, r => (h.get p.1 = some p.2) ∧ subK l h r
def okK : List (Nat × Ob) → Prop → Prop
  | [], r => r
  | p :: l, r => (some p.2 = some p.2) ∧ okK l r

theorem okK_of : ∀ (l : List (Nat × Ob)) {r : Prop}, r → okK l r
  | [], _, h => h
  | _ :: l, _, h => ⟨rfl, okK_of l h⟩

def SubH (l : List (Nat × Ob)) (h : Tr Ob) : Prop := ∀ F ob, (heapOf l).get F = some ob → h.get F = some ob

theorem subK_ok : ∀ {l : List (Nat × Ob)} {h : Tr Ob} {r : Prop}, subK l h r → SubH l h ∧ r
  | [], h, r, hh => ⟨fun F ob h => (by unfold heapOf at h; rw [Tr.get_lf] at h; cases h), hh⟩
  | p :: l, h, r, hh => by
    obtain ⟨h1, h2⟩ := hh
    obtain ⟨h3, h4⟩ := subK_ok h2
    refine ⟨fun F ob hF => ?_, h4⟩
    unfold heapOf at hF
    rw [Tr.get_set] at hF
    split at hF
    · rename_i e; cases hF; rw [e]; exact h1
    · exact h3 F ob hF

/-- Is a call one of a list? -/
def isEnt (l : List Ent) (f : FuncId) (n : Nat) : Bool := l.any fun x => Nat.beq x.f f && Nat.beq x.next n

def distinctE : List Ent → Bool
  | [] => true
  | x :: l => !isEnt l x.f x.next && distinctE l

/-- What is told of a call. -/
def EntOk (P : Program) (x : Ent) : Prop := ∀ (φ : Phi) (w : World) (args' : Array Value), Rel φ x.S w → Free φ x.next x.next' → RelL φ x.args args'.toList →
  Calls P x.f args' w fun e w' => ∃ v' φ', e = .returned v' ∧ Good φ φ' x.S x.S' w w' ∧ RelV φ' x.v v'

def Fits (x : Ent) (f : FuncId) (args : List Value) (S : St) : Prop := x.f = f ∧ x.next = S.next ∧ x.args = args ∧ SubH x.hp S.heap ∧ x.next ≤ x.next'

open Classical in
noncomputable def tabC (l : List Ent) (c : CallR) : CallR := fun f args S =>
  match l.find? (fun x => decide (Fits x f args S)) with
  | some x => .ok (x.v, x.S')
  | none => c f args S

theorem isEnt_of {l : List Ent} {x : Ent} (h : x ∈ l) : isEnt l x.f x.next = true := by
  unfold isEnt
  rw [List.any_eq_true]
  exact ⟨x, h, by simp⟩

theorem isEnt_false {l : List Ent} {f : FuncId} {n : Nat} (h : isEnt l f n = false) {x : Ent} (hx : x ∈ l) : ¬ (x.f = f ∧ x.next = n) := by
  rintro ⟨rfl, rfl⟩
  rw [isEnt_of hx] at h
  cases h

open Classical in
theorem find_fits {f : FuncId} {args : List Value} {S : St} : ∀ {l : List Ent} {x : Ent}, distinctE l = true → x ∈ l → Fits x f args S → l.find? (fun x => decide (Fits x f args S)) = some x
  | [], _, _, h, _ => by simp at h
  | y :: l, x, hd, h, hf => by
    unfold distinctE at hd
    rw [Bool.and_eq_true, Bool.not_eq_true'] at hd
    rw [List.find?_cons]
    rcases List.mem_cons.1 h with rfl | h
    · simp [hf]
    · have hn : ¬ Fits y f args S := fun hy => by
        refine isEnt_false hd.1 h ⟨hf.1.trans hy.1.symm, hf.2.1.trans hy.2.1.symm⟩
      simp only [hn, decide_false]
      exact find_fits hd.2 h hf

theorem tabC_hit {l : List Ent} {c : CallR} {x : Ent} {f : FuncId} {args : List Value} {S : St} (hd : distinctE l = true) (hx : x ∈ l) (hf : Fits x f args S) : tabC l c f args S = .ok (x.v, x.S') := by
  unfold tabC
  rw [find_fits hd hx hf]

theorem tabC_miss {l : List Ent} {c : CallR} {f : FuncId} {args : List Value} {S : St} (h : isEnt l f S.next = false) : tabC l c f args S = c f args S := by
  unfold tabC
  have : l.find? (fun x => @decide (Fits x f args S) (Classical.propDecidable _)) = none := by
    rw [List.find?_eq_none]
    intro x hx
    have := isEnt_false h hx
    simp only [decide_eq_true_eq]
    exact fun hf => this ⟨hf.1, hf.2.1⟩
  rw [this]

theorem Good.less {φ φ' : Phi} {S0 S1 S S' : St} {w w' : World} (h : Good φ φ' S0 S1 w w') (h0 : ∀ F ob, S0.get F = some ob → S.get F = some ob) (hn : S.next = S0.next) (h1 : ∀ F ob, S'.get F = some ob → S1.get F = some ob) (hn' : S'.next = S1.next) : Good φ φ' S S' w w' where
  ext := h.ext
  rng := by rw [hn, hn']; exact h.rng
  nxt := by rw [hn, hn']; exact h.nxt
  rel := h.rel.sub h1 (fun F ob hF => by rw [hn']; exact h.rel.dom F ob (h1 F ob hF))
  os := h.os
  tape := h.tape
  output := h.output
  size := h.size
  frame := fun b hb hh => h.frame b hb fun F ob l hF hl => hh F ob l (h0 F ob hF) hl
  blk := fun F l hF hl => by
    rcases h.blk F l hF hl with h | ⟨G, ob, m, hG, hm, e⟩
    · exact .inl h
    · exact .inr ⟨G, ob, m, h0 G ob hG, hm, e⟩
  dom := fun F ob hF => by
    rcases h.dom F ob (h1 F ob hF) with ⟨ob0, h2⟩ | h2
    · exact .inl ⟨ob0, h0 F ob0 h2⟩
    · exact .inr h2

open Classical in
theorem tabC_ok {P : Program} {l : List Ent} {c : CallR} (hl : ∀ x ∈ l, EntOk P x) (hc : CallOk P c) : CallOk P (tabC l c) := by
  intro f args S v S' h φ w args' hR hf ha
  unfold tabC at h
  split at h
  · rename_i x hx
    have hm := List.mem_of_find?_eq_some hx
    have hfit : Fits x f args S := by simpa using List.find?_some hx
    obtain ⟨rfl, hn, rfl, hs, hle⟩ := hfit
    cases h
    have hsub : ∀ F ob, x.S.get F = some ob → S.get F = some ob := hs
    have hR' : Rel φ x.S w := hR.sub hsub (fun F ob hF => by
      have := hR.dom F ob (hsub F ob hF)
      show F < x.next
      rw [hn]; exact this)
    refine (hl x hm φ w args' hR' ?_ ha).mono ?_
    · rw [hn]; exact hf
    · rintro e w' ⟨v', φ', he, hg, hv⟩
      exact ⟨v', φ', he, hg.less hsub hn.symm (fun _ _ h => h) rfl, hv⟩
  · exact hc f args S v S' h φ w args' hR hf ha

section
variable (P : Program) (L : List Ent)

def hitT (f : FuncId) (args : List Value) (S : St) (K : List Ent → Value → St → Prop) : List Ent → Prop
  | [] => False
  | x :: xs => match Nat.beq x.f f && Nat.beq x.next S.next && Nat.ble x.next x.next' with
    | true => (args = x.args) ∧ subK x.hp S.heap (K xs x.v x.S')
    | false => False

noncomputable def actT (c : CallR) (S : St) (sc : List Ent) (K : List Ent → Value → St → Prop) (a : Act1) : Prop :=
  match a with
  | .call f args => match isEnt L f S.next with
    | true => hitT f args S K sc
    | false => match c f args S with
      | .ok p => match Nat.ble S.next p.2.next with
        | true => K sc p.1 p.2
        | false => False
      | .no _ => False
  | .val v => K sc v S
  | .new v o => K sc v (S.new o)
  | .upd v S' => match Nat.ble S.next S'.next with
    | true => K sc v S'
    | false => False

noncomputable def seqT (c : CallR) (ops : List Oper) (K : List Ent → Ts → St → Prop) : List Oper → List Ent → Ts → St → Prop
  | [], sc, T, S => K sc T S
  | o :: l, sc, T, S => match wantedR ops T o with
    | false => seqT c ops K l sc (putT T o.dst undef) S
    | true => match opR P o T S with
      | .no _ => False
      | .ok a => actT L c S sc (fun sc v S' => seqT c ops K l sc (putT T o.dst v) S') a

noncomputable def drawOneT (c : CallR) (i m : Nat) (o : Oper) (D : Dr) (sc : List Ent) (K : List Ent → Dr → Prop) (a : Act1) : Prop :=
  match a with
  | .call f args => match isEnt L f 0 with
    | true => match (isCallV o.op && basicT P o.type) && args.all plain with
      | true => False
      | false => match isEnt L f D.next && Nat.beq (Nat.land D.done m) D.done with
        | true => hitT f args ⟨addSel m D.bdone D.all D.base, D.next⟩ (fun sc v S' => K sc (D.turned i o.dst v S')) sc
        | false => False
    | false => match isEnt L f D.next with
      | true => match (!((isCallV o.op && basicT P o.type) && args.all plain)) && Nat.beq (Nat.land D.done m) D.done with
        | true => hitT f args ⟨addSel m D.bdone D.all D.base, D.next⟩ (fun sc v S' => K sc (D.turned i o.dst v S')) sc
        | false => False
      | false => match drawOne P c i m o D (.call f args) with
        | .ok D' => K sc D'
        | .no _ => False
  | a => match drawOne P c i m o D a with
    | .ok D' => K sc D'
    | .no _ => False

noncomputable def drawT (c : CallR) (ops : List Oper) (ms : List Nat) (K : List Ent → Dr → Prop) : List Nat → List Ent → Dr → Prop
  | [], sc, D => K sc D
  | i :: l, sc, D => match nth ops i with
    | none => False
    | some o => match Nat.beq (Nat.land D.done (maskOf ms i)) (maskOf ms i) && !Nat.testBit D.done i with
      | false => False
      | true => match wantedR ops D.T o with
        | false => drawT c ops ms K l sc (D.did i o.dst undef)
        | true => match opR P o D.T ⟨addSel (maskOf ms i) D.bdone D.all D.base, D.next⟩ with
          | .no _ => False
          | .ok a => drawOneT P L c i (maskOf ms i) o D sc (drawT c ops ms K l) a

noncomputable def drawAllT (c : CallR) (ops : List Oper) (ms ord : List Nat) (K : List Ent → Ts → St → Prop) (sc : List Ent) (T : Ts) (S : St) : Prop :=
  match regionOk ops ms && afterOk ops ms with
  | true => drawT P L c ops ms (fun sc D => match drawEnd ops.length D with | .ok p => K sc p.1 p.2 | .no _ => False) ord sc ⟨T, S.next, S.heap, 0, [], [], 0⟩
  | false => False

abbrev KT := List Ent → Out → Prop

def kSeqT (K : KT) (next : List Ent → Ts → St → Prop) (sc : List Ent) (o : Out) : Prop :=
  match o.ex with
  | .normal => next sc o.T o.S
  | _ => K sc o
def kBlockT (id : Nat) (K : KT) (sc : List Ent) (o : Out) : Prop :=
  match o.ex with
  | .exit j => match Nat.beq j id with
    | true => K sc ⟨.normal, o.T, o.S⟩
    | false => K sc o
  | _ => K sc o

noncomputable def codeT (c : CallR) (ih : Code → KT → List Ent → Ts → St → Prop) : Code → KT → List Ent → Ts → St → Prop
  | .skip, K, sc, T, S => K sc ⟨.normal, T, S⟩
  | .label _, K, sc, T, S => K sc ⟨.normal, T, S⟩
  | .exit id, K, sc, T, S => K sc ⟨.exit id, T, S⟩
  | .ret, K, sc, T, S => K sc ⟨.ret, T, S⟩
  | .region _ ops d, K, sc, T, S => match d with
    | false => seqT P L c ops.toList (fun sc T S => K sc ⟨.normal, T, S⟩) ops.toList sc T S
    | true => drawAllT P L c ops.toList (masks ops.toList) (orderOf ops.toList (masks ops.toList)) (fun sc T S => K sc ⟨.normal, T, S⟩) sc T S
  | .seq a b, K, sc, T, S => ih a (kSeqT K (ih b K)) sc T S
  | .cond v a b, K, sc, T, S => match opnd T v with
    | .ok (.bool t) => match t with
      | true => ih a K sc T S
      | false => ih b K sc T S
    | _ => False
  | .block id a, K, sc, T, S => ih a (kBlockT id K) sc T S
  | .loop a, K, sc, T, S => ih a (kSeqT K (ih (.loop a) K)) sc T S
  | .scope a, K, sc, T, S => ih a K sc T S
  | _, _, _, _, _ => False

noncomputable def execT (c : CallR) (n : Nat) : Code → KT → List Ent → Ts → St → Prop :=
  Nat.rec (motive := fun _ => Code → KT → List Ent → Ts → St → Prop) (fun _ _ _ _ _ => False) (fun _ ih => codeT P L c ih) n

/-- What is asked of a run's end. -/
def endT (e : Ent) (v : Value) (S : St) : Prop := (v = e.v) ∧ subK e.hp' S.heap (S.next = e.next')

noncomputable def runT (O : FuncId → List Value → St → Option (Res (Value × St))) (n : Nat) (e : Ent) : Prop :=
  match nth P.funcs.toList e.f with
  | none => False
  | some fn => match fn.body with
    | none => False
    | some b => match bndC fn.ntmps b with
      | false => False
      | true => execT P L (callF P O (exec P O n)) n b (fun _ o => match o.ex with
        | .exit _ => False
        | _ => match resultsR P fn o.T o.S with
          | .ok v => endT e v o.S
          | .no _ => False) L (Tr.pushL .lf 0 e.args) e.S

/-- What a run comes to. -/
def okT (e : Ent) : List Ent → Prop
  | [] => (e.v = e.v) ∧ okK e.hp' (e.next' = e.next')
  | x :: l => (x.args = x.args) ∧ okK x.hp (okT e l)

theorem okT_of (e : Ent) : ∀ l, okT e l
  | [] => ⟨rfl, okK_of _ rfl⟩
  | x :: l => ⟨rfl, okK_of _ (okT_of e l)⟩
end

section
variable {P : Program} {L : List Ent} {c : CallR}

abbrev In (sc L : List Ent) : Prop := ∀ x ∈ sc, x ∈ L

theorem hitT_ok (hd : distinctE L = true) {f : FuncId} {args : List Value} {S : St} {K : List Ent → Value → St → Prop} : ∀ {sc : List Ent}, In sc L → hitT f args S K sc →
    ∃ sc' v S', In sc' L ∧ tabC L c f args S = .ok (v, S') ∧ Nat.ble S.next S'.next = true ∧ K sc' v S'
  | [], _, h => (show False from h).elim
  | x :: xs, hin, h => by
    simp only [hitT] at h
    split at h
    · rename_i hb
      rw [Bool.and_eq_true, Bool.and_eq_true] at hb
      obtain ⟨h1, h2⟩ := h
      obtain ⟨h3, h4⟩ := subK_ok h2
      have e1 := Nat_beq hb.1.1
      have e2 := Nat_beq hb.1.2
      have e3 := Nat_ble hb.2
      refine ⟨xs, x.v, x.S', fun y hy => hin y (List.mem_cons_of_mem _ hy), tabC_hit hd (hin x (by simp)) ⟨e1, e2, h1.symm, h3, e3⟩, ?_, h4⟩
      show Nat.ble S.next x.next' = true
      rw [← e2]; exact hb.2
    · exact h.elim

theorem actT_ok (hd : distinctE L = true) {S : St} {sc : List Ent} {K : List Ent → Value → St → Prop} {a : Act1} (hin : In sc L) (h : actT L c S sc K a) :
    ∃ sc' p, In sc' L ∧ Act1.go (tabC L c) S a = .ok p ∧ K sc' p.1 p.2 := by
  unfold actT at h
  split at h
  · rename_i f args
    split at h
    · obtain ⟨sc', v, S', h1, h2, h3, h4⟩ := hitT_ok (c := c) hd hin h
      refine ⟨sc', (v, S'), h1, ?_, h4⟩
      unfold Act1.go
      simp only [h2, Res.bind, h3]
    · rename_i hm
      split at h
      · rename_i p hp
        split at h
        · rename_i hb
          refine ⟨sc, p, hin, ?_, h⟩
          unfold Act1.go
          simp only [tabC_miss hm, hp, Res.bind, hb]
        · exact h.elim
      · exact h.elim
  · exact ⟨sc, (_, _), hin, rfl, h⟩
  · exact ⟨sc, (_, _), hin, rfl, h⟩
  · split at h
    · rename_i hb
      refine ⟨sc, (_, _), hin, ?_, h⟩
      unfold Act1.go
      simp only [hb]
    · exact h.elim

theorem seqT_ok (hd : distinctE L = true) {ops : List Oper} {K : List Ent → Ts → St → Prop} : ∀ {l : List Oper} {sc : List Ent} {T : Ts} {S : St}, In sc L → seqT P L c ops K l sc T S →
    ∃ sc' T' S', In sc' L ∧ seqOps P (tabC L c) ops l T S = .ok (T', S') ∧ K sc' T' S'
  | [], sc, T, S, hin, h => ⟨sc, T, S, hin, rfl, h⟩
  | o :: l, sc, T, S, hin, h => by
    simp only [seqT] at h
    split at h
    · rename_i hw
      obtain ⟨sc', T', S', h0, h1, h2⟩ := seqT_ok hd hin h
      refine ⟨sc', T', S', h0, ?_, h2⟩
      rw [seqOps_cons]
      unfold oneR
      rw [hw]
      exact h1
    · rename_i hw
      split at h
      · exact h.elim
      · rename_i a ha
        obtain ⟨sc1, p, hin1, hgo, h⟩ := actT_ok hd hin h
        obtain ⟨sc', T', S', h0, h1, h2⟩ := seqT_ok hd hin1 h
        refine ⟨sc', T', S', h0, ?_, h2⟩
        rw [seqOps_cons]
        unfold oneR
        rw [hw]
        simp only
        rw [ha]
        show ((Act1.go (tabC L c) S a).bind _) = _
        rw [hgo]
        exact h1

theorem pureCall_miss {o : Oper} {f : FuncId} {args : List Value} (h : isEnt L f 0 = false) : pureCall P (tabC L c) o f args = pureCall P c o f args := by
  unfold pureCall
  rw [tabC_miss h]

theorem pureCall_no {o : Oper} {f : FuncId} {args : List Value} (h : ((isCallV o.op && basicT P o.type) && args.all plain) = false) : pureCall P c o f args = none := by
  unfold pureCall
  rw [h]

theorem drawOneT_ok (hd : distinctE L = true) {i m : Nat} {o : Oper} {D : Dr} {sc : List Ent} {K : List Ent → Dr → Prop} {a : Act1} (hin : In sc L) (h : drawOneT P L c i m o D sc K a) :
    ∃ sc' D', In sc' L ∧ drawOne P (tabC L c) i m o D a = .ok D' ∧ K sc' D' := by
  have hitcase : ∀ (f : FuncId) (args : List Value), ((isCallV o.op && basicT P o.type) && args.all plain) = false → Nat.beq (Nat.land D.done m) D.done = true →
      hitT f args ⟨addSel m D.bdone D.all D.base, D.next⟩ (fun sc v S' => K sc (D.turned i o.dst v S')) sc → ∃ sc' D', In sc' L ∧ drawOne P (tabC L c) i m o D (.call f args) = .ok D' ∧ K sc' D' := by
    intro f args hp hb h
    obtain ⟨sc', v, S', h1, h2, h3, h4⟩ := hitT_ok (c := c) hd hin h
    refine ⟨sc', _, h1, ?_, h4⟩
    unfold drawOne
    simp only
    rw [pureCall_no hp]
    unfold drawCall
    simp only [hb, h2, Res.bind]
    rw [h3]
  unfold drawOneT at h
  split at h
  · rename_i f args
    split at h
    · split at h
      · exact h.elim
      · rename_i hp
        split at h
        · rename_i hb
          rw [Bool.and_eq_true] at hb
          exact hitcase f args hp hb.2 h
        · exact h.elim
    · rename_i h0
      split at h
      · split at h
        · rename_i hb
          rw [Bool.and_eq_true, Bool.not_eq_true'] at hb
          exact hitcase f args hb.1 hb.2 h
        · exact h.elim
      · rename_i hm
        split at h
        · rename_i D' hD'
          refine ⟨sc, D', hin, ?_, h⟩
          rw [← hD']
          unfold drawOne
          simp only
          rw [pureCall_miss h0]
          unfold drawCall
          rw [tabC_miss (S := ⟨addSel m D.bdone D.all D.base, D.next⟩) hm]
        · exact h.elim
  · split at h
    · rename_i hne _ D' hD'
      refine ⟨sc, D', hin, ?_, h⟩
      rw [← hD']
      cases a with
      | call f args => exact (hne f args rfl).elim
      | _ => rfl
    · exact h.elim

theorem drawT_ok (hd : distinctE L = true) {ops : List Oper} {ms : List Nat} {K : List Ent → Dr → Prop} : ∀ {l : List Nat} {sc : List Ent} {D : Dr}, In sc L → drawT P L c ops ms K l sc D →
    ∃ sc' D', In sc' L ∧ drawGo P (tabC L c) ops ms l D = .ok D' ∧ K sc' D'
  | [], sc, D, hin, h => ⟨sc, D, hin, rfl, h⟩
  | i :: l, sc, D, hin, h => by
    simp only [drawT] at h
    split at h
    · exact h.elim
    · rename_i o ho
      split at h
      · exact h.elim
      · rename_i hb
        split at h
        · rename_i hw
          obtain ⟨sc', D', h0, h1, h2⟩ := drawT_ok hd hin h
          refine ⟨sc', D', h0, ?_, h2⟩
          rw [drawGo_cons]
          unfold drawStep
          rw [ho]; simp only; rw [hb]; simp only; rw [hw]
          exact h1
        · rename_i hw
          split at h
          · exact h.elim
          · rename_i a ha
            obtain ⟨sc1, D1, hin1, hgo, h⟩ := drawOneT_ok hd hin h
            obtain ⟨sc', D', h0, h1, h2⟩ := drawT_ok hd hin1 h
            refine ⟨sc', D', h0, ?_, h2⟩
            rw [drawGo_cons]
            unfold drawStep
            rw [ho]; simp only; rw [hb]; simp only; rw [hw]; simp only; rw [ha]
            show ((drawOne P (tabC L c) i (maskOf ms i) o D a).bind _) = _
            rw [hgo]
            exact h1

theorem drawAllT_ok (hd : distinctE L = true) {ops : List Oper} {K : List Ent → Ts → St → Prop} {sc : List Ent} {T : Ts} {S : St} (hin : In sc L) (h : drawAllT P L c ops (masks ops) (orderOf ops (masks ops)) K sc T S) :
    ∃ sc' T' S', In sc' L ∧ drawR P (tabC L c) ops T S = .ok (T', S') ∧ K sc' T' S' := by
  unfold drawAllT at h
  split at h
  · rename_i hb
    obtain ⟨sc', D', h0, h1, h2⟩ := drawT_ok hd hin h
    split at h2
    · rename_i p hp
      refine ⟨sc', p.1, p.2, h0, ?_, h2⟩
      unfold drawR drawAll
      rw [hb, h1]
      exact hp
    · exact h2.elim
  · exact h.elim

def TOk (L : List Ent) (ihP : Code → KT → List Ent → Ts → St → Prop) (ih : Code → Ts → St → Res Out) : Prop := ∀ b K sc T S, In sc L → ihP b K sc T S → ∃ sc' o, In sc' L ∧ ih b T S = .ok o ∧ K sc' o

theorem codeT_ok (hd : distinctE L = true) {ihP : Code → KT → List Ent → Ts → St → Prop} {ih : Code → Ts → St → Res Out} (hi : TOk L ihP ih) : TOk L (codeT P L c ihP) (fun b T S => codeK b P ⟨tabC L c, ih⟩ T S) := by
  intro b K sc T S hin h
  cases b with
  | skip => exact ⟨sc, _, hin, rfl, h⟩
  | label l => exact ⟨sc, _, hin, rfl, h⟩
  | exit id => exact ⟨sc, _, hin, rfl, h⟩
  | ret => exact ⟨sc, _, hin, rfl, h⟩
  | region id ops d =>
    cases d with
    | false =>
      obtain ⟨sc', T', S', h0, h1, h2⟩ := seqT_ok hd hin h
      refine ⟨sc', _, h0, ?_, h2⟩
      show ((seqOps P (tabC L c) ops.toList ops.toList T S).bind fun p => Res.ok (⟨.normal, p.1, p.2⟩ : Out)) = _
      rw [h1]; rfl
    | true =>
      have h : drawAllT P L c ops.toList (masks ops.toList) (orderOf ops.toList (masks ops.toList)) (fun sc T S => K sc ⟨.normal, T, S⟩) sc T S := h
      obtain ⟨sc', T', S', h0, h1, h2⟩ := drawAllT_ok hd hin h
      refine ⟨sc', _, h0, ?_, h2⟩
      show ((drawR P (tabC L c) ops.toList T S).bind fun p => Res.ok (⟨.normal, p.1, p.2⟩ : Out)) = _
      rw [h1]; rfl
  | seq x y =>
    obtain ⟨sc1, o1, h0, h1, h2⟩ := hi _ _ _ _ _ hin h
    obtain ⟨ex, T1, S1⟩ := o1
    show ∃ sc' o, In sc' L ∧ ((ih x T S).bind fun o => cSeq2 ⟨tabC L c, ih⟩ y o o.ex) = .ok o ∧ K sc' o
    rw [h1]
    cases ex with
    | normal => exact hi _ _ _ _ _ h0 h2
    | exit id => exact ⟨sc1, _, h0, rfl, h2⟩
    | ret => exact ⟨sc1, _, h0, rfl, h2⟩
  | cond v x y =>
    simp only [codeT] at h
    show ∃ sc' o, In sc' L ∧ cCond v x y P ⟨tabC L c, ih⟩ T S = .ok o ∧ K sc' o
    unfold cCond
    split at h
    · rename_i t ht
      rw [ht]
      split at h
      · exact hi _ _ _ _ _ hin h
      · exact hi _ _ _ _ _ hin h
    · exact h.elim
  | block id x =>
    obtain ⟨sc1, o1, h0, h1, h2⟩ := hi _ _ _ _ _ hin h
    obtain ⟨ex, T1, S1⟩ := o1
    show ∃ sc' o, In sc' L ∧ ((ih x T S).bind fun o => cBlock2 id o o.ex) = .ok o ∧ K sc' o
    rw [h1]
    cases ex with
    | normal => exact ⟨sc1, _, h0, rfl, h2⟩
    | ret => exact ⟨sc1, _, h0, rfl, h2⟩
    | exit j =>
      simp only [kBlockT] at h2
      simp only [Res.bind, cBlock2]
      split at h2
      · rename_i hj; rw [hj]; exact ⟨sc1, _, h0, rfl, h2⟩
      · rename_i hj; rw [hj]; exact ⟨sc1, _, h0, rfl, h2⟩
  | loop x =>
    obtain ⟨sc1, o1, h0, h1, h2⟩ := hi _ _ _ _ _ hin h
    obtain ⟨ex, T1, S1⟩ := o1
    show ∃ sc' o, In sc' L ∧ ((ih x T S).bind fun o => cSeq2 ⟨tabC L c, ih⟩ (.loop x) o o.ex) = .ok o ∧ K sc' o
    rw [h1]
    cases ex with
    | normal => exact hi _ _ _ _ _ h0 h2
    | exit id => exact ⟨sc1, _, h0, rfl, h2⟩
    | ret => exact ⟨sc1, _, h0, rfl, h2⟩
  | scope x => exact hi _ _ _ _ _ hin h
  | _ => exact h.elim

theorem execT_ok (hd : distinctE L = true) : ∀ n, TOk L (execT P L c n) (Nat.rec (motive := fun _ => Code → Ts → St → Res Out) (fun _ _ _ => .no 119) (fun _ ih b T S => codeK b P ⟨tabC L c, ih⟩ T S) n)
  | 0 => fun _ _ _ _ _ _ h => h.elim
  | n + 1 => codeT_ok hd (execT_ok hd n)

/-- A run with calls that were told tells a call. -/
theorem runT_ok (hmix : P.follows .mixedOrders = true) {O : FuncId → List Value → St → Option (Res (Value × St))} (hO : OraOk P O) (hL : ∀ x ∈ L, EntOk P x) (hd : distinctE L = true) {n : Nat} {e : Ent} (h : runT P L O n e) : EntOk P e := by
  unfold runT at h
  split at h
  · exact h.elim
  rename_i fn hfn
  split at h
  · exact h.elim
  rename_i b hb
  split at h
  · exact h.elim
  rename_i hbnd
  have hcall : CallOk P (tabC L (callF P O (exec P O n))) := tabC_ok hL (call_sound hO (exec_sound hmix hO n))
  obtain ⟨sc', o, _, h1, h2⟩ := execT_ok hd n _ _ _ _ _ (fun _ h => h) h
  have key := call_sound (noneO_ok (P := P)) (execC_sound hmix hcall n)
  have hrun : ∃ v, endT e v o.S ∧ callF3 P fn o o.ex = .ok (v, o.S) := by
    obtain ⟨ex, T1, S1⟩ := o
    cases ex with
    | exit id => exact h2.elim
    | normal =>
      simp only at h2
      split at h2
      · rename_i v hv
        exact ⟨v, h2, by unfold callF3; simp only [hv]; rfl⟩
      · exact h2.elim
    | ret =>
      simp only at h2
      split at h2
      · rename_i v hv
        exact ⟨v, h2, by unfold callF3; simp only [hv]; rfl⟩
      · exact h2.elim
  obtain ⟨v, ⟨rfl, hend⟩, hv⟩ := hrun
  obtain ⟨hsub, hnx⟩ := subK_ok hend
  intro φ w args' hR hf ha
  refine (key e.f e.args e.S e.v o.S (callF_of hfn hb hbnd h1 hv) φ w args' hR (by rw [hnx]; exact hf) ha).mono ?_
  rintro e' w' ⟨v', φ', he, hg, hr⟩
  exact ⟨v', φ', he, hg.less (fun _ _ h => h) rfl hsub hnx.symm, hr⟩

/-- A whole call without arguments, from no memory at all, that tells a plain value. -/
theorem ent_closed {e : Ent} (h : EntOk P e) (hargs : e.args = []) (hp : plain e.v = true) (hh : e.hp = []) (w : World) (hw : e.next = 0) :
    Calls P e.f #[] w fun r w' => r = .returned e.v ∧ w'.os = w.os ∧ w'.tape = w.tape ∧ w'.output = w.output ∧ w.heap.size ≤ w'.heap.size ∧ ∀ b, b < w.heap.size → w'.heap[b]? = w.heap[b]? := by
  have hS : e.S = ⟨.lf, 0⟩ := by unfold Ent.S; rw [hh, hw]; rfl
  refine (h (fun _ => none) w #[] (by rw [hS]; exact rel_nil w) (fun _ _ _ => rfl) (by rw [hargs]; exact .nil)).mono ?_
  rintro r w' ⟨v', φ', rfl, hg, hr⟩
  refine ⟨by rw [plain_eq hp hr], hg.os, hg.tape, hg.output, hg.size, fun b hb => hg.frame b hb ?_⟩
  intro F ob l hF
  rw [hS] at hF
  unfold St.get at hF
  rw [Tr.get_lf] at hF; cases hF
end
end Go.Ev
namespace Go.Ev
/-! A run of one function in which ranges over maps go on in every order: what it tells is the same in all of them, up to the numbers of what is new. -/

/-- The steps that a range over a map may take. -/
noncomputable def brL (S : St) (r m since : Nat) (seen : List Nat) (clk : Nat) : List Nat → List (Value × Value) → List (Value × St)
  | b :: bs, e :: es => match inN seen b with
    | true => brL S r m since seen clk bs es
    | false => (.tuple #[.bool true, e.1, e.2], S.put r (.iter (some m) since (seen ++ [b]) clk)) :: brL S r m since seen clk bs es
  | _, _ => []

noncomputable def brN3 (S : St) (r m since : Nat) (seen : List Nat) (last : Nat) : Option Ob → List (Value × St)
  | some (.map es bs clk) => match bs.all (fun b => Nat.blt b since) && Nat.ble since last with
    | true => brL S r m since seen clk bs es
    | false => []
  | _ => []
noncomputable def brN2 (S : St) (r : Nat) : Option Ob → List (Value × St)
  | some (.iter (some m) since seen last) => brN3 S r m since seen last (S.get m)
  | _ => []
noncomputable def brN (S : St) : Value → List (Value × St)
  | .pointer (some ⟨r, 0, none⟩) => brN2 S r (S.get r)
  | _ => []

noncomputable def brO (o : Oper) (T : Ts) (S : St) : List (Value × St) :=
  match o.op, o.guard with
  | .next x false, none => match opnd T x with
    | .ok v => brN S v
    | .no _ => []
  | _, _ => []

/-- What is expected of each order: at its end the numbers of what is new. -/
inductive Br where
  | leaf (ρ : List (Nat × Nat))
  | node (l : List Br)

def allK (K : Br → Value → St → Prop) : List (Value × St) → List Br → Prop
  | [], [] => True
  | p :: l, b :: bs => K b p.1 p.2 ∧ allK K l bs
  | _, _ => False

section
variable (P : Program) (N : Nat)

noncomputable def brGo (K : Br → Value → St → Prop) : List (Value × St) → Br → Prop
  | l, .node bs => allK K l bs
  | _, .leaf _ => False

noncomputable def seqU (c : CallR) (ops : List Oper) (K : Br → Ts → St → Prop) : List Oper → Br → Ts → St → Prop
  | [], b, T, S => K b T S
  | o :: l, b, T, S => match brO o T S with
    | x :: xs => brGo (fun b v S' => match Nat.beq S'.next S.next with | true => seqU c ops K l b (putT T o.dst v) S' | false => False) (x :: xs) b
    | [] => match oneR P c ops o T S with
      | .ok p => match Nat.ble p.2.next N with
        | true => seqU c ops K l b (putT T o.dst p.1) p.2
        | false => False
      | .no _ => False

abbrev KU := Br → Out → Prop

def kSeqU (K : KU) (next : Br → Ts → St → Prop) (sc : Br) (o : Out) : Prop :=
  match o.ex with
  | .normal => next sc o.T o.S
  | _ => K sc o
def kBlockU (id : Nat) (K : KU) (sc : Br) (o : Out) : Prop :=
  match o.ex with
  | .exit j => match Nat.beq j id with
    | true => K sc ⟨.normal, o.T, o.S⟩
    | false => K sc o
  | _ => K sc o

noncomputable def codeU (c : CallR) (ih : Code → KU → Br → Ts → St → Prop) : Code → KU → Br → Ts → St → Prop
  | .skip, K, sc, T, S => K sc ⟨.normal, T, S⟩
  | .label _, K, sc, T, S => K sc ⟨.normal, T, S⟩
  | .exit id, K, sc, T, S => K sc ⟨.exit id, T, S⟩
  | .ret, K, sc, T, S => K sc ⟨.ret, T, S⟩
  | .region _ ops d, K, sc, T, S => match d with
    | false => seqU P N c ops.toList (fun sc T S => K sc ⟨.normal, T, S⟩) ops.toList sc T S
    | true => match drawR P c ops.toList T S with
      | .ok p => match Nat.ble p.2.next N with
        | true => K sc ⟨.normal, p.1, p.2⟩
        | false => False
      | .no _ => False
  | .seq a b, K, sc, T, S => ih a (kSeqU K (ih b K)) sc T S
  | .cond v a b, K, sc, T, S => match opnd T v with
    | .ok (.bool t) => match t with
      | true => ih a K sc T S
      | false => ih b K sc T S
    | _ => False
  | .block id a, K, sc, T, S => ih a (kBlockU id K) sc T S
  | .loop a, K, sc, T, S => ih a (kSeqU K (ih (.loop a) K)) sc T S
  | .scope a, K, sc, T, S => ih a K sc T S
  | _, _, _, _, _ => False

noncomputable def execU (c : CallR) (n : Nat) : Code → KU → Br → Ts → St → Prop :=
  Nat.rec (motive := fun _ => Code → KU → Br → Ts → St → Prop) (fun _ _ _ _ _ => False) (fun _ ih => codeU P N c ih) n

end

section
variable {P : Program} {N : Nat} {φ : Phi} {S : St} {w : World} {T : Ts} {a : Act}

theorem brL_mem {r m since clk : Nat} {seen : List Nat} : ∀ {bs : List Nat} {es : List (Value × Value)} {es' : List MapEntry} {e' : MapEntry}, RelE φ es es' → es'.map (·.born) = bs → e' ∈ es' → inN seen e'.born = false →
    ∃ e : Value × Value, ((Value.tuple #[.bool true, e.1, e.2]), S.put r (.iter (some m) since (seen ++ [e'.born]) clk)) ∈ brL S r m since seen clk bs es ∧ RelV φ e.1 e'.key ∧ RelV φ e.2 e'.val
  | bs, es, [], e', _, _, h, _ => by simp at h
  | [], es, e0' :: es', e', _, hbs, _, _ => by simp at hbs
  | b :: bs, [], e0' :: es', e', hre, _, _, _ => by have := hre.1; simp at this
  | b :: bs, e0 :: es, e0' :: es', e', hre, hbs, hm, hs => by
    simp only [List.map_cons, List.cons.injEq] at hbs
    obtain ⟨rfl, hbs⟩ := hbs
    obtain ⟨⟨hp, hk⟩, hv⟩ := hre.2 0 e0 e0' rfl rfl
    have hre' : RelE φ es es' := ⟨by have := hre.1; simpa using this, fun j a b ha hb => hre.2 (j + 1) a b (by simpa using ha) (by simpa using hb)⟩
    simp only [brL]
    rcases List.mem_cons.1 hm with rfl | hm
    · rw [hs]
      exact ⟨e0, List.mem_cons_self, by rw [hk]; exact plain_self hp, hv⟩
    · obtain ⟨e, h1, h2⟩ := brL_mem (r := r) (m := m) (since := since) (clk := clk) hre' hbs hm hs
      refine ⟨e, ?_, h2⟩
      split
      · exact h1
      · exact List.mem_cons_of_mem _ h1

/-- A step of a range over a map goes one of the ways. -/
theorem br_sound {o : Oper} {ops : Array Oper} {l : List (Value × St)} {K : Act → World → Prop} {Q : Exit → Act → World → Prop} (h : brO o T S = l) (hne : l ≠ []) (hT : TRel φ T a) (hR : Rel φ S w)
    (hK : ∀ p ∈ l, ∀ v' w', Good φ φ S p.2 w w' → RelV φ p.1 v' → K (a.put o.dst v') w') :
    if Region.wanted o (yielded ops a.tmps) then o.wp P a w K Q ∨ (o.asks P a w ∧ LetsOut Q) else K (a.put o.dst undef) w := by
  unfold brO at h
  split at h
  case h_2 => exact absurd h.symm hne
  rename_i x ho hg
  have hw : Region.wanted o (yielded ops a.tmps) = true := by unfold Region.wanted; rw [hg]
  rw [hw]
  simp only [if_true]
  left
  split at h
  case h_2 => exact absurd h.symm hne
  rename_i v hv
  have hr : RelV φ v (a.eval x) := hT.orel [x] x (by simp) v hv
  unfold Oper.wp
  obtain ⟨dst, op, ty, pos, aft, gd⟩ := o
  simp only at ho hg
  subst ho
  show Oper.upon P _ a K Q ((do pure (Next.value (← Instr.next (a.eval x) false ty)) : Sem Next).run P w)
  generalize a.eval x = x' at hr
  unfold brN at h
  split at h
  case h_2 => exact absurd h.symm hne
  rename_i r
  unfold brN2 at h
  split at h
  case h_2 => exact absurd h.symm hne
  rename_i m since seen last hgr
  unfold brN3 at h
  split at h
  case h_2 => exact absurd h.symm hne
  rename_i es bs clk hgm
  split at h
  case h_2 => exact absurd h.symm hne
  rename_i hb
  rw [Bool.and_eq_true] at hb
  cases hr with
  | ptr F off lr hF =>
    obtain ⟨l1, hl1, m', seen', hh, hs, hbase, k, hk, rfl⟩ := hR.obs r _ hgr
    rw [hF] at hl1; cases hl1
    obtain ⟨l2, hl2, es', hob, hre, hbs⟩ := hR.obs m _ hgm
    rw [hk] at hl2; cases hl2
    have hold : ∀ y ∈ es'.toList, y.born < since := fun y hy => by
      have := List.all_eq_true.1 hb.1 y.born (by rw [← hbs]; exact List.mem_map.2 ⟨y, hy, rfl⟩)
      exact Nat_blt this
    rw [hbase, Nat.zero_add]
    rcases run_next_at (P := P) w ty lr.blk k.blk since last seen' es' clk hh hob hold (Nat_ble hb.2) with ⟨h0, _⟩ | ⟨e', he', w1, hw1, hrun⟩
    · exfalso
      have hl0 : brL S r m since seen clk bs es = [] := by
        have hall : ∀ y ∈ es'.toList, inN seen y.born = true := by
          intro y hy
          cases hc : inN seen y.born with
          | true => rfl
          | false =>
            have : y ∈ (leftOf es' seen').toList := by
              unfold leftOf
              rw [Array.toList_filter, List.mem_filter]
              refine ⟨hy, ?_⟩
              rw [inN_iff] at hc
              rw [← hs] at hc
              simpa using hc
            have h2 : (leftOf es' seen').toList.length = 0 := h0
            rw [List.length_eq_zero_iff] at h2
            rw [h2] at this
            simp at this
        have key : ∀ (bs : List Nat) (es : List (Value × Value)), (∀ b ∈ bs, inN seen b = true) → brL S r m since seen clk bs es = [] := by
          intro bs
          induction bs with
          | nil => intro es _; simp [brL]
          | cons b bs ih =>
            intro es hb
            cases es with
            | nil => simp [brL]
            | cons e es =>
              simp only [brL]
              rw [hb b (by simp)]
              exact ih es (fun b' hb' => hb b' (by simp [hb']))
        refine key bs es (fun b hb => ?_)
        rw [← hbs, List.mem_map] at hb
        obtain ⟨y, hy, rfl⟩ := hb
        exact hall y hy
      rw [hl0] at h
      exact hne h.symm
    · have hleft : e' ∈ es'.toList ∧ inN seen e'.born = false := by
        unfold leftOf at he'
        rw [Array.toList_filter, List.mem_filter] at he'
        refine ⟨he'.1, ?_⟩
        rw [inN_iff, ← hs]
        simpa using he'.2
      obtain ⟨e, hmem, hk1, hk2⟩ := brL_mem (S := S) (r := r) (m := m) (since := since) (clk := clk) hre hbs hleft.1 hleft.2
      rw [h] at hmem
      rw [Sem.run_bind, hrun]
      simp only [Result.andThen_ok, Sem.run_pure, Oper.upon_value]
      have hR1 : Rel φ S w1 := by
        rcases hw1 with rfl | rfl
        · exact hR
        · exact hR.world rfl
      have hh1 : w1.heap[lr.blk]? = some (.mapIter (some k.blk) since seen' last) := by rcases hw1 with rfl | rfl <;> exact hh
      have hg1 := setOb_good (o' := .mapIter (some k.blk) since (seen'.push e'.born) clk) (ob := .iter (some m) since (seen ++ [e'.born]) clk) hR1 hgr hF (fun _ _ _ _ _ => by simp)
        ⟨some k.blk, seen'.push e'.born, set_get hh1, by simp [hs], hbase, k, hk, rfl⟩ hh1
      refine hK _ hmem _ _ ?_ (.tuple _ _ (.cons _ _ _ _ (.bool _) (.cons _ _ _ _ hk1 (.cons _ _ _ _ hk2 .nil))))
      have hw : Good φ φ S (S.put r (.iter (some m) since (seen ++ [e'.born]) clk)) w1 (Go.ChangeMaps.setBlock w1 lr.blk (.mapIter (some k.blk) since (seen'.push e'.born) clk)) := hg1
      rcases hw1 with rfl | rfl
      · exact hw
      · exact ⟨hw.ext, hw.rng, hw.nxt, hw.rel, hw.os, hw.tape, hw.output, hw.size, hw.frame, hw.blk, hw.dom⟩

theorem allK_mem {K : Br → Value → St → Prop} : ∀ {l : List (Value × St)} {bs : List Br}, allK K l bs → ∀ p ∈ l, ∃ b, K b p.1 p.2
  | [], _, _, p, hp => by simp at hp
  | q :: l, [], h, _, _ => h.elim
  | q :: l, b :: bs, h, p, hp => by
    obtain ⟨h1, h2⟩ := h
    rcases List.mem_cons.1 hp with rfl | hp
    · exact ⟨b, h1⟩
    · exact allK_mem h2 p hp

theorem seqU_sound {c : CallR} (hc : CallOk P c) {ops : Array Oper} {Q : Exit → Act → World → Prop} {n : Nat} {K : Br → Ts → St → Prop} : ∀ (l : List Oper) (k : Nat) (sc : Br) (T : Ts) (S : St) (φ : Phi) (a : Act) (w : World), ops.toList.drop k = l → seqU P N c ops.toList K l sc T S →
    (∀ o ∈ l, ∀ d, o.dst = some d → d < n) → n ≤ a.tmps.size → TRel φ T a → Rel φ S w → Free φ S.next N →
    (∀ sc' T' S' φ' a' w', K sc' T' S' → Good φ φ' S S' w w' → TRel φ' T' a' → a'.defers = a.defers → a'.tmps.size = a.tmps.size → Q .normal a' w') →
    wpOps P ops Q (List.range' k l.length) a w
  | [], k, sc, T, S, φ, a, w, _, h, _, _, hT, hR, _, hQ => by
    simp only [List.length_nil, List.range'_zero, wpOps]
    exact hQ sc T S φ a w h (Good.refl hR) hT rfl rfl
  | o :: l, k, sc, T, S, φ, a, w, hd, h, hb, hn, hT, hR, hfree, hQ => by
    have hok : ops[k]? = some o := by
      rw [← Array.getElem?_toList]
      have : (ops.toList.drop k)[0]? = some o := by rw [hd]; rfl
      simpa using this
    have hd1 : ops.toList.drop (k + 1) = l := by
      have := congrArg List.tail hd
      simpa using this
    simp only [List.length_cons, List.range'_succ, wpOps, hok]
    have hdd : ∀ d, o.dst = some d → d < a.tmps.size := fun d hd => Nat.lt_of_lt_of_le (hb o (by simp) d hd) hn
    simp only [seqU] at h
    split at h
    · rename_i x xs hbr
      unfold brGo at h
      split at h
      case h_2 => exact h.elim
      rename_i l0 bs0
      refine br_sound hbr (by simp) hT hR fun p hp v' w' hg hv => ?_
      obtain ⟨b, hb'⟩ := allK_mem h p hp
      split at hb'
      case h_2 => exact hb'.elim
      rename_i hnx
      have hnx := Nat_beq hnx
      refine seqU_sound hc l (k + 1) b (putT T o.dst p.1) p.2 φ (a.put o.dst v') w' hd1 hb' (fun q hq => hb q (by simp [hq])) (by rw [put_size]; exact hn) (hT.put hv hdd) hg.rel (by rw [hnx]; exact hfree) ?_
      intro sc2 T2 S2 φ2 a2 w2 hK hg2 hT2 hde hsz
      exact hQ sc2 T2 S2 φ2 a2 w2 hK (hg.trans hg2) hT2 (by rw [hde, put_defers]) (by rw [hsz, put_size])
    · split at h
      case h_2 => exact h.elim
      rename_i p hp
      split at h
      case h_2 => exact h.elim
      rename_i hN
      obtain ⟨v, S1⟩ := p
      have hN : S1.next ≤ N := Nat_ble hN
      refine one_sound hc hp hT hR (hfree.sub (Nat.le_refl _) hN) ?_
      intro φ1 v' w1 hg hv
      refine seqU_sound hc l (k + 1) sc (putT T o.dst v) S1 φ1 (a.put o.dst v') w1 hd1 h (fun q hq => hb q (by simp [hq])) (by rw [put_size]; exact hn) ((hT.mono hg.ext).put hv hdd) hg.rel (hfree.after hg) ?_
      intro sc2 T2 S2 φ2 a2 w2 hK hg2 hT2 hde hsz
      exact hQ sc2 T2 S2 φ2 a2 w2 hK (hg.trans hg2) hT2 (by rw [hde, put_defers]) (by rw [hsz, put_size])

def UOk (P : Program) (N : Nat) (ihP : Code → KU → Br → Ts → St → Prop) : Prop := ∀ b K sc T S, ihP b K sc T S → ∀ (n : Nat) (φ : Phi) (a : Act) (w : World) (Q : Exit → Act → World → Prop), bndC n b = true → n ≤ a.tmps.size → a.defers = [] → TRel φ T a → Rel φ S w → Free φ S.next N →
  (∀ sc' o φ' a' w', K sc' o → Good φ φ' S o.S w w' → TRel φ' o.T a' → a'.defers = [] → a'.tmps.size = a.tmps.size → Q (exOf o.ex) a' w') → Wps P b Q a w

theorem codeU_ok (hmix : P.follows .mixedOrders = true) {c : CallR} (hc : CallOk P c) {ihP : Code → KU → Br → Ts → St → Prop} (hi : UOk P N ihP) : UOk P N (codeU P N c ihP) := by
  intro b K sc T S h n φ a w Q hb hn hde hT hR hf hQ
  cases b with
  | skip => exact Wps.of (wp_skip (hQ sc _ φ a w h (Good.refl hR) hT hde rfl)) (by simp)
  | label l => exact Wps.of (wp_label (hQ sc _ φ a w h (Good.refl hR) hT hde rfl)) (by simp)
  | exit id => exact Wps.of (wp_exit (hQ sc _ φ a w h (Good.refl hR) hT hde rfl)) (by simp)
  | ret => exact Wps.of (wp_ret (hQ sc _ φ a w h (Good.refl hR) hT hde rfl)) (by simp)
  | region id ops d =>
    have hbnd : ∀ q ∈ ops.toList, ∀ t, q.dst = some t → t < n := by
      intro q hq t ht
      simp only [bndC, List.all_eq_true] at hb
      have := hb q hq
      rw [ht] at this
      exact Nat_blt this
    cases d with
    | false =>
      refine Wps.of (wp_region ?_) (by simp)
      have := seqU_sound hc (Q := Q) (n := n) ops.toList 0 sc T S φ a w rfl h hbnd hn hT hR hf (fun sc' T' S' φ' a' w' hK hg hT' hd' hs => hQ sc' ⟨.normal, T', S'⟩ φ' a' w' hK hg hT' (hd'.trans hde) hs)
      rw [List.range_eq_range']
      simpa using this
    | true =>
      simp only [codeU] at h
      split at h
      case h_2 => exact h.elim
      rename_i p hp
      split at h
      case h_2 => exact h.elim
      rename_i hN
      obtain ⟨T', S'⟩ := p
      have hN : S'.next ≤ N := Nat_ble hN
      refine Wps.of ?_ (by simp)
      exact draw_sound hc hmix hp (fun q hq t ht => Nat.lt_of_lt_of_le (hbnd q hq t ht) hn) hT hR (hf.sub (Nat.le_refl _) hN) (fun φ' a' w' hg hT' hd' hs => hQ sc _ φ' a' w' h hg hT' (hd'.trans hde) hs)
  | seq x y =>
    simp only [bndC, Bool.and_eq_true] at hb
    refine Wps.of (wp_seq ?_) (by simp)
    refine (hi _ _ _ _ _ h n φ a w _ hb.1 hn hde hT hR hf fun sc1 o1 φ1 a1 w1 hK1 g1 t1 d1 z1 => ?_).1
    obtain ⟨ex, T1, S1⟩ := o1
    cases ex with
    | normal =>
      have hK1 : ihP y K sc1 T1 S1 := hK1
      refine (hi _ _ _ _ _ hK1 n φ1 a1 w1 Q hb.2 (by omega) d1 t1 g1.rel (hf.after g1) fun sc2 o2 φ2 a2 w2 hK2 g2 t2 d2 z2 => ?_).1
      exact hQ sc2 o2 φ2 a2 w2 hK2 (g1.trans g2) t2 d2 (z2.trans z1)
    | exit id => exact hQ sc1 _ φ1 a1 w1 hK1 g1 t1 d1 z1
    | ret => exact hQ sc1 _ φ1 a1 w1 hK1 g1 t1 d1 z1
  | cond v x y =>
    simp only [bndC, Bool.and_eq_true] at hb
    have heval : ∀ u, opnd T v = .ok u → RelV φ u (a.eval v) := fun u hu => hT.orel [v] v (by simp) u hu
    simp only [codeU] at h
    split at h
    · rename_i t ht
      have := heval _ ht
      split at h
      · refine Wps.of (wp_cond_true ?_ (hi _ _ _ _ _ h n φ a w Q hb.1 hn hde hT hR hf hQ).1) (by simp)
        generalize a.eval v = u at this
        cases this; rfl
      · refine Wps.of (wp_cond_false ?_ (hi _ _ _ _ _ h n φ a w Q hb.2 hn hde hT hR hf hQ).1) (by simp)
        generalize a.eval v = u at this
        cases this; rfl
    · exact h.elim
  | block id x =>
    refine Wps.of (wp_block ?_) (by simp)
    have hb' : bndC n x = true := hb
    refine (hi _ _ _ _ _ h n φ a w _ hb' hn hde hT hR hf fun sc1 o1 φ1 a1 w1 hK1 g1 t1 d1 z1 => ?_).1
    obtain ⟨ex, T1, S1⟩ := o1
    cases ex with
    | normal => exact hQ sc1 _ φ1 a1 w1 hK1 g1 t1 d1 z1
    | ret => exact hQ sc1 _ φ1 a1 w1 hK1 g1 t1 d1 z1
    | exit j =>
      simp only [kBlockU] at hK1
      show (if j = id then Q .normal a1 w1 else Q (.exit j) a1 w1)
      split at hK1
      · rename_i hj
        rw [if_pos (Nat_beq hj)]
        exact hQ sc1 _ φ1 a1 w1 hK1 g1 t1 d1 z1
      · rename_i hj
        rw [if_neg (Nat_beq_false hj)]
        exact hQ sc1 _ φ1 a1 w1 hK1 g1 t1 d1 z1
  | loop x =>
    have hb' : bndC n x = true := hb
    have hl : LoopWp P x Q a w := by
      refine LoopWp.round ?_
      refine (hi _ _ _ _ _ h n φ a w _ hb' hn hde hT hR hf fun sc1 o1 φ1 a1 w1 hK1 g1 t1 d1 z1 => ?_).1
      obtain ⟨ex, T1, S1⟩ := o1
      cases ex with
      | normal =>
        have hK1 : ihP (.loop x) K sc1 T1 S1 := hK1
        refine (hi _ _ _ _ _ hK1 n φ1 a1 w1 Q hb (by omega) d1 t1 g1.rel (hf.after g1) fun sc2 o2 φ2 a2 w2 hK2 g2 t2 d2 z2 => ?_).2 x rfl
        exact hQ sc2 o2 φ2 a2 w2 hK2 (g1.trans g2) t2 d2 (z2.trans z1)
      | exit id => exact hQ sc1 _ φ1 a1 w1 hK1 g1 t1 d1 z1
      | ret => exact hQ sc1 _ φ1 a1 w1 hK1 g1 t1 d1 z1
    exact ⟨hl.loop, fun d e => by cases e; exact hl⟩
  | scope x =>
    have hb' : bndC n x = true := hb
    refine Wps.of (wp_scope_straight ?_) (by simp)
    exact (hi _ _ _ _ _ h n φ a w _ hb' hn hde hT hR hf fun sc1 o1 φ1 a1 w1 hK1 g1 t1 d1 z1 => noGoto_of (hQ sc1 o1 φ1 a1 w1 hK1 g1 t1 d1 z1)).1
  | _ => exact (show False from h).elim

theorem execU_ok (hmix : P.follows .mixedOrders = true) {c : CallR} (hc : CallOk P c) : ∀ n, UOk P N (execU P N c n)
  | 0 => fun _ _ _ _ _ h => (show False from h).elim
  | n + 1 => codeU_ok hmix hc (execU_ok hmix hc n)
end

/-! ### The end of a run, up to the numbers of what is new -/

def lookN : List (Nat × Nat) → Nat → Option Nat
  | [], _ => none
  | p :: l, F => match Nat.beq p.1 F with
    | true => some p.2
    | false => lookN l F

/-- Does a number here stand for that number there? -/
def renN (lo : Nat) (ρ : List (Nat × Nat)) (F G : Nat) : Bool :=
  match Nat.blt F lo with
  | true => Nat.beq F G
  | false => match lookN ρ F with
    | some H => Nat.beq H G
    | none => false

def renA (lo : Nat) (ρ : List (Nat × Nat)) (a b : Addr) : Bool := renN lo ρ a.block b.block && Nat.beq a.off b.off && (match a.spot, b.spot with | none, none => true | _, _ => false)

def renV (lo : Nat) (ρ : List (Nat × Nat)) : Nat → Value → Value → Bool
  | 0, _, _ => false
  | n + 1, v, w => match v, w with
    | .bool a, .bool b => a == b
    | .int j a, .int k b => j == k && a == b
    | .string s, .string t => eqBytes s.data.toList t.data.toList
    | .pointer none, .pointer none => true
    | .pointer (some a), .pointer (some b) => renA lo ρ a b
    | .slice none m c, .slice none m' c' => Nat.beq m m' && Nat.beq c c'
    | .slice (some a) m c, .slice (some b) m' c' => renA lo ρ a b && Nat.beq m m' && Nat.beq c c'
    | .map none, .map none => true
    | .map (some a), .map (some b) => renN lo ρ a b
    | .nilFunc, .nilFunc => true
    | .nilIface, .nilIface => true
    | .iface t x, .iface u y => Nat.beq t u && renV lo ρ n x y
    | .agg a, .agg b => sameVs (renV lo ρ n) a.toList b.toList
    | .tuple a, .tuple b => sameVs (renV lo ρ n) a.toList b.toList
    | _, _ => false

/-- Is each cell the same, up to the numbers? -/
noncomputable def renC (lo : Nat) (ρ : List (Nat × Nat)) (cs cs' : Tr Value) : Nat → Bool
  | 0 => true
  | i + 1 => (match cs.get i, cs'.get i with
    | some x, some x' => renV lo ρ 4 x x'
    | _, _ => false) && renC lo ρ cs cs' i

/-- Is what is new here what is there, up to the numbers? -/
noncomputable def renOb (lo : Nat) (ρ : List (Nat × Nat)) : Ob → Option Ob → Bool
  | .row cs n s st old, some (.row cs' n' s' st' old') => !st && !st' && (match old with | none => true | some _ => false) &&
      (match old' with | none => true | some H => Nat.ble lo H && ρ.all (fun p => !Nat.beq p.2 H)) && Nat.beq n n' && Nat.beq s s' && renC lo ρ cs cs' n
  | _, _ => false

def distinctN : List Nat → Bool
  | [] => true
  | x :: l => !l.any (Nat.beq x) && distinctN l

/-- Are the numbers in order? -/
def renOk (lo hi nx : Nat) (ρ : List (Nat × Nat)) : Bool :=
  ρ.all (fun p => Nat.ble lo p.1 && Nat.blt p.1 hi && Nat.ble lo p.2 && Nat.blt p.2 nx) && distinctN (ρ.map (·.2))

noncomputable def endN (lo hi : Nat) (ρ : List (Nat × Nat)) (S : Tr Ob) (S0 : Tr Ob) (r : Prop) : List (Nat × Ob) → Prop
  | [] => r
  | p :: l => match Nat.blt p.1 lo with
    | true => (S.get p.1 = some p.2) ∧ (S0.get p.1 = some p.2) ∧ endN lo hi ρ S S0 r l
    | false => (match lookN ρ p.1 with
      | some G => Nat.blt p.1 hi && renOb lo ρ p.2 (S.get G)
      | none => false) = true ∧ endN lo hi ρ S S0 r l

def okN (lo : Nat) (r : Prop) : List (Nat × Ob) → Prop
  | [] => r
  | p :: l => match Nat.blt p.1 lo with
    | true => (some p.2 = some p.2) ∧ (some p.2 = some p.2) ∧ okN lo r l
    | false => true = true ∧ okN lo r l

theorem okN_of (lo : Nat) {r : Prop} (hr : r) : ∀ l, okN lo r l
  | [] => hr
  | p :: l => by
    unfold okN
    split
    · exact ⟨rfl, rfl, okN_of lo hr l⟩
    · exact ⟨rfl, okN_of lo hr l⟩

noncomputable def endU (e : Ent) (b : Br) (v : Value) (S : St) : Prop := match b with
  | .leaf ρ => (renOk e.next e.next' S.next ρ && renV e.next ρ 4 e.v v && Nat.ble e.next S.next && Nat.ble S.next e.next') = true ∧ endN e.next e.next' ρ S.heap (heapOf e.hp) True e.hp'
  | .node _ => False

def okB (e : Ent) : Prop := true = true ∧ okN e.next True e.hp'

section
variable {φ φ1 φ2 : Phi} {lo : Nat} {ρ : List (Nat × Nat)}

theorem renA_ok {a b : Addr} (h : renA lo ρ a b = true) : renN lo ρ a.block b.block = true ∧ a = ⟨a.block, b.off, none⟩ ∧ b = ⟨b.block, b.off, none⟩ := by
  unfold renA at h
  simp only [Bool.and_eq_true] at h
  obtain ⟨⟨h1, h2⟩, h3⟩ := h
  obtain ⟨a1, a2, a3⟩ := a
  obtain ⟨b1, b2, b3⟩ := b
  have h2 : a2 = b2 := Nat_beq h2
  subst h2
  simp only at h3
  cases a3 <;> cases b3 <;> simp_all

theorem sameVs_rel {f : Value → Value → Bool} (hf : ∀ x y z, f x y = true → RelV φ1 y z → RelV φ2 x z) : ∀ {l m r : List Value}, sameVs f l m = true → RelL φ1 m r → RelL φ2 l r
  | [], [], _, _, h => by cases h; exact .nil
  | [], _ :: _, _, h, _ => by simp [sameVs] at h
  | _ :: _, [], _, h, _ => by simp [sameVs] at h
  | x :: l, y :: m, r, h, hr => by
    simp only [sameVs, Bool.and_eq_true] at h
    cases hr with
    | cons _ z _ r' h1 h2 => exact .cons _ _ _ _ (hf x y z h.1 h1) (sameVs_rel hf h.2 h2)

theorem renV_rel (hφ : ∀ F G, renN lo ρ F G = true → φ2 F = φ1 G) : ∀ (n : Nat) (x y z : Value), renV lo ρ n x y = true → RelV φ1 y z → RelV φ2 x z
  | 0, _, _, _, h, _ => by simp [renV] at h
  | n + 1, x, y, z, h, hr => by
    unfold renV at h
    split at h
    · simp only [beq_iff_eq] at h; subst h; cases hr; exact .bool _
    · simp only [Bool.and_eq_true, beq_iff_eq] at h; obtain ⟨rfl, rfl⟩ := h; cases hr; exact .int _ _
    · rename_i s t
      have := eqBytes_eq' _ _ h
      obtain ⟨s⟩ := s; obtain ⟨t⟩ := t
      have := arr_eq this
      simp only at this
      subst this
      cases hr; exact .string _
    · cases hr; exact .ptr0
    · rename_i a b
      obtain ⟨h1, h2, h3⟩ := renA_ok h
      rw [h2]
      rw [h3] at hr
      cases hr with
      | ptr F off l hF => exact .ptr _ _ l ((hφ _ _ h1).trans hF)
    · simp only [Bool.and_eq_true] at h
      have e1 := Nat_beq h.1
      have e2 := Nat_beq h.2
      subst e1; subst e2
      cases hr; exact .sl0
    · rename_i a m c b m' c'
      simp only [Bool.and_eq_true] at h
      obtain ⟨⟨h0, h4⟩, h5⟩ := h
      have e1 := Nat_beq h4
      have e2 := Nat_beq h5
      subst e1; subst e2
      obtain ⟨h1, h2, h3⟩ := renA_ok h0
      rw [h2]
      rw [h3] at hr
      cases hr with
      | sl F off _ _ l a' cap hF ha hc hn => exact .sl _ _ _ _ l a' cap ((hφ _ _ h1).trans hF) ha hc hn
    · cases hr; exact .map0
    · cases hr with
      | map M l hM => exact .map _ l ((hφ _ _ h).trans hM)
    · cases hr; exact .nilFunc
    · cases hr; exact .nilIface
    · simp only [Bool.and_eq_true] at h
      have e1 := Nat_beq h.1
      subst e1
      cases hr with
      | iface _ _ y' hy => exact .iface _ _ _ (renV_rel hφ n _ _ _ h.2 hy)
    · rename_i a b
      obtain ⟨a⟩ := a
      obtain ⟨b⟩ := b
      cases hr with
      | agg _ l' hl => exact .agg _ _ (sameVs_rel (fun x y z => renV_rel hφ n x y z) h hl)
    · rename_i a b
      obtain ⟨a⟩ := a
      obtain ⟨b⟩ := b
      cases hr with
      | tuple _ l' hl => exact .tuple _ _ (sameVs_rel (fun x y z => renV_rel hφ n x y z) h hl)
    · cases h

theorem renC_get {cs cs' : Tr Value} : ∀ {n : Nat}, renC lo ρ cs cs' n = true → ∀ i, i < n → ∃ x x', cs.get i = some x ∧ cs'.get i = some x' ∧ renV lo ρ 4 x x' = true
  | 0, _, i, hi => absurd hi (by omega)
  | n + 1, h, i, hi => by
    simp only [renC, Bool.and_eq_true] at h
    by_cases hin : i = n
    · subst hin
      have h1 := h.1
      split at h1
      · rename_i x x' hx hx'
        exact ⟨x, x', hx, hx', h1⟩
      · cases h1
    · exact renC_get h.2 i (by omega)

theorem lookN_mem : ∀ {ρ : List (Nat × Nat)} {F G : Nat}, lookN ρ F = some G → (F, G) ∈ ρ
  | [], F, G, h => by simp [lookN] at h
  | p :: l, F, G, h => by
    simp only [lookN] at h
    split at h
    · rename_i hb
      cases h
      have := Nat_beq hb
      subst this
      exact List.mem_cons_self
    · exact List.mem_cons_of_mem _ (lookN_mem h)

theorem lookN_inj : ∀ {ρ : List (Nat × Nat)} {F F' G : Nat}, distinctN (ρ.map (·.2)) = true → lookN ρ F = some G → lookN ρ F' = some G → F = F'
  | [], F, F', G, _, h, _ => by simp [lookN] at h
  | p :: l, F, F', G, hd, h, h' => by
    simp only [List.map_cons, distinctN, Bool.and_eq_true, Bool.not_eq_true'] at hd
    have hno : ∀ {K : Nat}, lookN l K = some p.2 → False := fun {K} hk => by
      have hm := lookN_mem hk
      have h2 := hd.1
      rw [← Bool.not_eq_true, List.any_eq_true] at h2
      exact h2 ⟨p.2, List.mem_map.2 ⟨_, hm, rfl⟩, by simp⟩
    simp only [lookN] at h h'
    split at h
    · rename_i hb
      cases h
      split at h'
      · rename_i hb'; rw [← Nat_beq hb, ← Nat_beq hb']
      · exact (hno h').elim
    · split at h'
      · cases h'; exact (hno h).elim
      · exact lookN_inj hd.2 h h'

/-- What a value is related to, where each number that is known keeps its place. -/
theorem RelV.two {φ : Phi} (hφ : ∀ F l, φ F = some l → φ2 F = φ1 F) : ∀ {x y z : Value}, RelV φ x y → RelV φ1 x z → RelV φ2 x z := by
  have key : ∀ (k : Nat) (x : Value), SizeOf.sizeOf x < k → ∀ y z, RelV φ x y → RelV φ1 x z → RelV φ2 x z := by
    intro k
    induction k with
    | zero => intro x hx; omega
    | succ k ih =>
      intro x hx y z h h1
      have list : ∀ (l m r : List Value), (∀ x ∈ l, SizeOf.sizeOf x < k) → RelL φ l m → RelL φ1 l r → RelL φ2 l r := by
        intro l
        induction l with
        | nil => intro m r _ _ hr; cases hr; exact .nil
        | cons a l ihl =>
          intro m r hs hm hr
          cases hm with
          | cons _ b _ m' h2 h3 =>
            cases hr with
            | cons _ c _ r' h4 h5 => exact .cons _ _ _ _ (ih a (hs a (by simp)) _ _ h2 h4) (ihl m' r' (fun x hx => hs x (by simp [hx])) h3 h5)
      cases h with
      | bool b => cases h1; exact .bool _
      | int k n => cases h1; exact .int _ _
      | float k n => cases h1; exact .float _ _
      | complex k a b => cases h1; exact .complex _ _ _
      | string s => cases h1; exact .string _
      | nilFunc => cases h1; exact .nilFunc
      | nilIface => cases h1; exact .nilIface
      | ptr0 => cases h1; exact .ptr0
      | sl0 => cases h1; exact .sl0
      | map0 => cases h1; exact .map0
      | chan0 => cases h1; exact .chan0
      | ptr F off l hF => cases h1 with | ptr _ _ l' hF' => exact .ptr F off l' ((hφ F l hF).trans hF')
      | sl F off n c l a cap hF ha hc hn => cases h1 with | sl _ _ _ _ l' a' cap' hF' ha' hc' hn' => exact .sl F off n c l' a' cap' ((hφ F l hF).trans hF') ha' hc' hn'
      | map M l hF => cases h1 with | map _ l' hF' => exact .map M l' ((hφ M l hF).trans hF')
      | func fn a b a' b' ha hb =>
        cases h1 with
        | func _ _ _ c d hc hd =>
          refine .func fn a b c d (list a a' c (fun x hx => ?_) ha hc) (list b b' d (fun x hx => ?_) hb hd)
          · have := List.sizeOf_lt_of_mem hx; simp at *; omega
          · have := List.sizeOf_lt_of_mem hx; simp at *; omega
      | iface t v v' hv => cases h1 with | iface _ _ v'' hv' => exact .iface t v v'' (ih v (by simp at *; omega) _ _ hv hv')
      | agg l l' hl => cases h1 with | agg _ l'' hl' => exact .agg l l'' (list l l' l'' (fun x hx => by have := List.sizeOf_lt_of_mem hx; simp at *; omega) hl hl')
      | tuple l l' hl => cases h1 with | tuple _ l'' hl' => exact .tuple l l'' (list l l' l'' (fun x hx => by have := List.sizeOf_lt_of_mem hx; simp at *; omega) hl hl')
  intro x y z h h1
  exact key _ x (Nat.lt_succ_self _) y z h h1

theorem RelOb.two {φ : Phi} {w w' : World} {l l0 : Loc} {ob : Ob} (hφ : ∀ F l, φ F = some l → φ2 F = φ1 F) (h : RelOb φ w l0 ob) (h1 : RelOb φ1 w' l ob) : RelOb φ2 w' l ob := by
  cases ob with
  | row cs n s st old =>
    obtain ⟨c, e, fz, a1, a2, a3, a4, a5, a6⟩ := h1
    obtain ⟨c0, e0, fz0, b1, b2, b3, b4, b5, b6⟩ := h
    refine ⟨c, e, fz, a1, a2, a3, a4, a5, fun i hi => ?_⟩
    obtain ⟨x, y, hx, hy, hxy⟩ := a6 i hi
    obtain ⟨x0, y0, hx0, hy0, hxy0⟩ := b6 i hi
    rw [hx] at hx0; cases hx0
    exact ⟨x, y, hx, hy, hxy0.two hφ hxy⟩
  | map es bs k =>
    obtain ⟨es', a1, a2, a3⟩ := h1
    obtain ⟨es0, b1, b2, b3⟩ := h
    refine ⟨es', a1, ⟨a2.1, fun i e e' he he' => ?_⟩, a3⟩
    obtain ⟨c1, c2⟩ := a2.2 i e e' he he'
    obtain ⟨e0, he0⟩ : ∃ e0, es0.toList[i]? = some e0 := by
      have h1 := (List.getElem?_eq_some_iff.1 he).1
      exact ⟨_, List.getElem?_eq_getElem (by have := b2.1; omega)⟩
    exact ⟨c1, (b2.2 i e e0 he he0).2.two hφ c2⟩
  | iter m since seen last =>
    obtain ⟨m', seen', a1, a2, a3, a4⟩ := h1
    obtain ⟨m0, seen0, b1, b2, b3, b4⟩ := h
    refine ⟨m', seen', a1, a2, a3, ?_⟩
    cases m with
    | none => exact a4
    | some M =>
      obtain ⟨k, hk, e⟩ := a4
      obtain ⟨k0, hk0, e0⟩ := b4
      exact ⟨k, (hφ M k0 hk0).trans hk, e⟩
  | siter s pos => exact h1

theorem endN_ok {hi : Nat} {S S0 : Tr Ob} : ∀ {l : List (Nat × Ob)}, endN lo hi ρ S S0 True l → ∀ F ob, (heapOf l).get F = some ob →
    (F < lo ∧ S.get F = some ob ∧ S0.get F = some ob) ∨ (lo ≤ F ∧ F < hi ∧ ∃ G, lookN ρ F = some G ∧ renOb lo ρ ob (S.get G) = true)
  | [], _, F, ob, hF => by unfold heapOf at hF; rw [Tr.get_lf] at hF; cases hF
  | p :: l, h, F, ob, hF => by
    unfold heapOf at hF
    rw [Tr.get_set] at hF
    simp only [endN] at h
    split at h
    · rename_i hb
      obtain ⟨h1, h2, h3⟩ := h
      split at hF
      · rename_i e; cases hF; subst e; exact .inl ⟨Nat_blt hb, h1, h2⟩
      · exact endN_ok h3 F ob hF
    · rename_i hb
      obtain ⟨h1, h2⟩ := h
      split at hF
      · rename_i e
        cases hF
        subst e
        split at h1
        · rename_i G hG
          rw [Bool.and_eq_true] at h1
          refine .inr ⟨?_, Nat_blt h1.1, G, hG, h1.2⟩
          refine Nat.le_of_not_lt fun hlt => ?_
          have h9 : Nat.blt p.1 lo = true := by simpa using hlt
          rw [hb] at h9; cases h9
        · cases h1
      · exact endN_ok h2 F ob hF

theorem renOb_row {ob : Ob} {o : Option Ob} (h : renOb lo ρ ob o = true) : ∃ cs n s cs' old', ob = .row cs n s false none ∧ o = some (.row cs' n s false old') ∧ (∀ H, old' = some H → lo ≤ H ∧ ∀ p ∈ ρ, p.2 ≠ H) ∧ renC lo ρ cs cs' n = true := by
  unfold renOb at h
  split at h
  · rename_i cs n s st old cs' n' s' st' old'
    simp only [Bool.and_eq_true, Bool.not_eq_true'] at h
    obtain ⟨⟨⟨⟨⟨⟨h1, h2⟩, h3⟩, h4⟩, h5⟩, h6⟩, h7⟩ := h
    have e1 := Nat_beq h5
    have e2 := Nat_beq h6
    subst e1; subst e2; subst h1; subst h2
    cases old with
    | some _ => cases h3
    | none =>
      refine ⟨cs, n, s, cs', old', rfl, rfl, ?_, h7⟩
      intro H hH
      subst hH
      simp only [Bool.and_eq_true] at h4
      refine ⟨Nat_ble h4.1, fun p hp e => ?_⟩
      have := List.all_eq_true.1 h4.2 p hp
      rw [e] at this
      simp at this
  · cases h

/-- What is there, told by other numbers. -/
theorem ren_good {φ φ' : Phi} {e : Ent} {S : St} {w w' : World} {v v' : Value} (hR : Rel φ e.S w) (hg : Good φ φ' e.S S w w') (hf : Free φ e.next e.next') (hb : endU e (.leaf ρ) v S) (hv : RelV φ' v v') :
    ∃ φ'', Good φ φ'' e.S e.S' w w' ∧ RelV φ'' e.v v' := by
  obtain ⟨h1, h2⟩ := hb
  simp only [Bool.and_eq_true] at h1
  obtain ⟨⟨⟨hok, hrv⟩, hle1⟩, hle2⟩ := h1
  have hle1 := Nat_ble hle1
  have hle2 := Nat_ble hle2
  unfold renOk at hok
  rw [Bool.and_eq_true] at hok
  have hkeys : ∀ F G, lookN ρ F = some G → e.next ≤ F ∧ F < e.next' ∧ e.next ≤ G ∧ G < S.next := by
    intro F G h
    have := List.all_eq_true.1 hok.1 _ (lookN_mem h)
    simp only [Bool.and_eq_true] at this
    exact ⟨Nat_ble this.1.1.1, Nat_blt this.1.1.2, Nat_ble this.1.2, Nat_blt this.2⟩
  obtain ⟨φ'', hφ''⟩ : ∃ φ'' : Phi, φ'' = fun F => if e.next ≤ F ∧ F < e.next' then (match lookN ρ F with | some G => φ' G | none => none) else φ' F := ⟨_, rfl⟩
  have hout : ∀ F, ¬ (e.next ≤ F ∧ F < e.next') → φ'' F = φ' F := fun F h => by rw [hφ'']; simp only [if_neg h]
  have hin : ∀ F G, lookN ρ F = some G → φ'' F = φ' G := fun F G h => by
    have := hkeys F G h
    rw [hφ'']
    simp only [if_pos (show e.next ≤ F ∧ F < e.next' from ⟨this.1, this.2.1⟩), h]
  have hsome : ∀ F l, φ'' F = some l → (¬ (e.next ≤ F ∧ F < e.next') ∧ φ' F = some l) ∨ (e.next ≤ F ∧ F < e.next' ∧ ∃ G, lookN ρ F = some G ∧ φ' G = some l) := by
    intro F l h
    by_cases hr : e.next ≤ F ∧ F < e.next'
    · right
      rw [hφ''] at h
      simp only [if_pos hr] at h
      split at h
      · rename_i G hG; exact ⟨hr.1, hr.2, G, hG, h⟩
      · cases h
    · left; exact ⟨hr, by rw [← hout F hr]; exact h⟩
  have hren : ∀ F G, renN e.next ρ F G = true → φ'' F = φ' G := by
    intro F G h
    unfold renN at h
    split at h
    · rename_i hb
      have := Nat_blt hb
      rw [← Nat_beq h]
      exact hout F (by omega)
    · split at h
      · rename_i H hH
        rw [← Nat_beq h]
        exact hin F H hH
      · cases h
  have hdomφ : ∀ F l, φ F = some l → φ'' F = φ' F := fun F l h => hout F fun hr => by rw [hf F hr.1 hr.2] at h; cases h
  have hS : ∀ F ob, e.S'.get F = some ob → (F < e.next ∧ S.get F = some ob ∧ e.S.get F = some ob) ∨ (e.next ≤ F ∧ F < e.next' ∧ ∃ G, lookN ρ F = some G ∧ renOb e.next ρ ob (S.get G) = true) := fun F ob h => endN_ok h2 F ob h
  refine ⟨φ'', ⟨fun F l h => by rw [hdomφ F l h]; exact hg.ext F l h, ?_, ?_, ⟨?_, ?_, ?_, ?_⟩, hg.os, hg.tape, hg.output, hg.size, hg.frame, ?_, ?_⟩, renV_rel hren 4 _ _ _ hrv hv⟩
  · intro F l h0 h
    rcases hsome F l h with ⟨hn, h⟩ | ⟨a, b, _⟩
    · have := hg.rng F l h0 h
      have hx : e.next ≤ F := this.1
      exact ⟨hx, by show F < e.next'; omega⟩
    · exact ⟨a, b⟩
  · show e.next ≤ e.next'; omega
  · intro F ob h
    rcases hS F ob h with ⟨hlt, hSF, h0F⟩ | ⟨hge, hlt, G, hG, hob⟩
    · obtain ⟨l, hl, hr⟩ := hg.rel.obs F ob hSF
      obtain ⟨l0, hl0, hr0⟩ := hR.obs F ob h0F
      exact ⟨l, by rw [hout F (by omega)]; exact hl, hr0.two hdomφ hr⟩
    · obtain ⟨cs, n, s, cs', old', rfl, hSG, _, hc⟩ := renOb_row hob
      obtain ⟨l, hl, c, el, fz, a1, a2, a3, a4, a5, a6⟩ := hg.rel.obs G _ hSG
      refine ⟨l, by rw [hin F G hG]; exact hl, c, el, fz, a1, a2, a3, a4, a5, fun i hi => ?_⟩
      obtain ⟨x, x', hx, hx', hxx⟩ := renC_get hc i hi
      obtain ⟨x0, y, hx0, hy, hr⟩ := a6 i hi
      rw [hx'] at hx0; cases hx0
      exact ⟨x, y, hx, hy, renV_rel hren 4 _ _ _ hxx hr⟩
  · intro A B obA obB lA lB hne hA hB hlA hlB heq
    rcases hS A obA hA with ⟨a1, a2, a3⟩ | ⟨a1, a2, G, hG, hobA⟩
    · rw [hout A (by omega)] at hlA
      rcases hS B obB hB with ⟨b1, b2, b3⟩ | ⟨b1, b2, H, hH, hobB⟩
      · rw [hout B (by omega)] at hlB
        exact hg.rel.excl A B obA obB lA lB hne a2 b2 hlA hlB heq
      · exfalso
        rw [hin B H hH] at hlB
        obtain ⟨cs, n, s, cs', old', rfl, hSH, hold, _⟩ := renOb_row hobB
        have hHk := hkeys B H hH
        have := hg.rel.excl H A _ obA lB lA (by omega) hSH a2 hlB hlA heq.symm
        cases obA with
        | row c0 n0 s0 st0 old0 =>
          have := (this rfl).1
          have := (hold A this).1
          omega
        | _ => exact this
    · rw [hin A G hG] at hlA
      obtain ⟨cs, n, s, cs', old', rfl, hSG, hold, _⟩ := renOb_row hobA
      have hGk := hkeys A G hG
      exfalso
      rcases hS B obB hB with ⟨b1, b2, b3⟩ | ⟨b1, b2, H, hH, hobB⟩
      · rw [hout B (by omega)] at hlB
        have := hg.rel.excl G B _ obB lA lB (by omega) hSG b2 hlA hlB heq
        cases obB with
        | row c0 n0 s0 st0 old0 =>
          have := (this rfl).1
          have := (hold B this).1
          omega
        | _ => exact this
      · rw [hin B H hH] at hlB
        obtain ⟨cs2, n2, s2, cs2', old2', rfl, hSH, hold2, _⟩ := renOb_row hobB
        have hGH : G ≠ H := fun e' => hne (lookN_inj hok.2 hG (by rw [e']; exact hH))
        have := (hg.rel.excl G H _ _ lA lB hGH hSG hSH hlA hlB heq rfl).1
        exact (hold H this).2 _ (lookN_mem hH) rfl
  · intro F l h
    rcases hsome F l h with ⟨_, h⟩ | ⟨_, _, G, _, h⟩
    · exact hg.rel.ids F l h
    · exact hg.rel.ids G l h
  · intro F ob h
    rcases hS F ob h with ⟨hlt, _, _⟩ | ⟨_, hlt, _⟩
    · show F < e.next'; omega
    · exact hlt
  · intro F l h0 h
    rcases hsome F l h with ⟨_, h⟩ | ⟨_, _, G, hG, h⟩
    · exact hg.blk F l h0 h
    · have := hkeys F G hG
      exact hg.blk G l (hf G this.2.2.1 (by omega)) h
  · intro F ob h
    rcases hS F ob h with ⟨_, _, h0⟩ | ⟨hge, hlt, _⟩
    · exact .inl ⟨ob, h0⟩
    · exact .inr (hf F hge hlt)
end

section
variable {P : Program}

noncomputable def runU (P : Program) (O : FuncId → List Value → St → Option (Res (Value × St))) (n : Nat) (e : Ent) (b : Br) : Prop :=
  match nth P.funcs.toList e.f with
  | none => False
  | some fn => match fn.body with
    | none => False
    | some c => match bndC fn.ntmps c with
      | false => False
      | true => execU P e.next' (callF P O (exec P O n)) n c (fun b o => match o.ex with
        | .exit _ => False
        | _ => match resultsR P fn o.T o.S with
          | .ok v => endU e b v o.S
          | .no _ => False) b (Tr.pushL .lf 0 e.args) e.S

/-- A run in every order tells a call. -/
theorem runU_ok (hmix : P.follows .mixedOrders = true) {O : FuncId → List Value → St → Option (Res (Value × St))} (hO : OraOk P O) {n : Nat} {e : Ent} {b : Br} (h : runU P O n e b) : EntOk P e := by
  unfold runU at h
  split at h
  · exact h.elim
  rename_i fn hfn
  split at h
  · exact h.elim
  rename_i c hc
  split at h
  · exact h.elim
  rename_i hbnd
  intro φ w args' hR hf ha
  have hcall : CallOk P (callF P O (exec P O n)) := call_sound hO (exec_sound hmix hO n)
  rw [nth_eq, Array.getElem?_toList] at hfn
  refine calls_of_wp hfn hc ?_
  refine (execU_ok hmix hcall n _ _ _ _ _ h fn.ntmps φ _ w _ hbnd ?_ rfl ?_ hR hf fun sc' o φ' a' w' hK hg hT' hd hsz => ?_).1
  · simp; omega
  · intro t
    have hlen := ha.length
    unfold Tr.tmp
    rw [Tr.get_pushL, Tr.get_lf]
    by_cases ht : t < e.args.length
    · rw [if_pos ⟨Nat.zero_le _, by omega⟩, Nat.sub_zero]
      have h1 : e.args[t]? = some e.args[t] := List.getElem?_eq_getElem ht
      obtain ⟨x', hx', hr'⟩ := ha.get h1
      rw [h1]
      have hlt : t < args'.size := by simpa using (List.getElem?_eq_some_iff.1 hx').1
      have hx2 : args'[t] = x' := by
        have := (List.getElem?_eq_some_iff.1 hx').2
        simpa using this
      simp only [Array.getD_eq_getD_getElem?]
      rw [Array.getElem?_append_left hlt, Array.getElem?_eq_getElem hlt, Option.getD_some, hx2]
      exact hr'
    · rw [if_neg (by omega)]
      have hge : args'.size ≤ t := by simpa using (by omega : args'.toList.length ≤ t)
      simp only [Array.getD_eq_getD_getElem?]
      rw [Array.getElem?_append_right hge]
      have : ((Array.replicate (fn.ntmps - args'.size) undef)[t - args'.size]?).getD undef = undef := by
        rw [Array.getElem?_replicate]; split <;> rfl
      rw [this]
      exact .tuple _ _ .nil
  · have fin : ∀ v, resultsR P fn o.T o.S = .ok v → endU e sc' v o.S → bodyPost P fn (fun r w' => ∃ v' φ', r = .returned v' ∧ Good φ φ' e.S e.S' w w' ∧ RelV φ' e.v v') .normal a' w' := by
      intro v hv hend
      obtain ⟨v', hrun, hr⟩ := results_sound hT' hg.rel hv
      cases sc' with
      | node l => exact (show False from hend).elim
      | leaf ρ =>
        obtain ⟨φ'', hg2, hr2⟩ := ren_good hR hg hf hend hr
        exact ⟨hd, v', hrun, v', φ'', rfl, hg2, hr2⟩
    obtain ⟨ex, T1, S1⟩ := o
    cases ex with
    | exit id => exact hK.elim
    | normal =>
      simp only at hK
      split at hK
      · rename_i v hv; exact fin v hv hK
      · exact hK.elim
    | ret =>
      simp only at hK
      split at hK
      · rename_i v hv; exact fin v hv hK
      · exact hK.elim
end
end Go.Ev
namespace Go.Ev
/-! Short words for what is told, and the joints of parts. -/
noncomputable section
def bytesL : Nat → Nat → List Value
  | 0, _ => []
  | k + 1, n => .int .u8 (Int.ofNat (n % 256)) :: bytesL k (n / 256)
/-- A row of bytes, out of one number. -/
def bT (k n : Nat) : Tr Value := Tr.pushL .lf 0 (bytesL k n)
def bytesU : Nat → Nat → List UInt8
  | 0, _ => []
  | k + 1, n => UInt8.ofNat (n % 256) :: bytesU k (n / 256)
/-- A string, out of one number. -/
def sN (k n : Nat) : ByteArray := ⟨⟨bytesU k n⟩⟩
def vT (l : List Value) : Tr Value := Tr.pushL .lf 0 l
def pt (F off : Nat) : Value := .pointer (some ⟨F, off, none⟩)
def sl (F off n c : Nat) : Value := .slice (some ⟨F, off, none⟩) n c
end
variable {P : Program} {O : FuncId → List Value → St → Option (Res (Value × St))} {n : Nat} {e : Ent}

theorem ent_of {L : List Ent} (hmix : P.follows .mixedOrders = true) (hO : OraOk P O) (h : runT P L O n e = okT e L) (hL : ∀ x ∈ L, EntOk P x) (hd : distinctE L = true) : EntOk P e :=
  runT_ok hmix hO hL hd (h.mpr (okT_of e L))

theorem okB_of (e : Ent) : okB e := ⟨rfl, okN_of _ trivial _⟩

theorem entU_of {b : Br} {q : Prop} (hmix : P.follows .mixedOrders = true) (hO : OraOk P O) (h : runU P O n e b = q) (hq : q) : EntOk P e :=
  runU_ok hmix hO (h.mpr hq)

theorem inAll_nil : ∀ x ∈ ([] : List Ent), EntOk P x := fun x h => by simp at h
theorem inAll_cons {x : Ent} {L : List Ent} (hx : EntOk P x) (hL : ∀ y ∈ L, EntOk P y) : ∀ y ∈ x :: L, EntOk P y := fun y hy => by
  rcases List.mem_cons.1 hy with rfl | h
  · exact hx
  · exact hL y h
end Go.Ev
