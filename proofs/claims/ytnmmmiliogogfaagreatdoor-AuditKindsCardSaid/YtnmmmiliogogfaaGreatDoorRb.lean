/- What hot functions tell is sound. No condition. -/
import Derived.Test.YtnmmmiliogogfaaGreatDoorWc
import Derived.Test.YtnmmmiliogogfaaGreatDoorRa
import Derived.Test.YtnmmmiliogogfaaGreatDoorEvG
set_option linter.unusedVariables false
set_option linter.unusedSimpArgs false
namespace Go.Proofs.Wag
open Go.RowKit
theorem wrap8 (n : Nat) (h : n < 256) : IntKind.u8.wrap (n : Int) = (n : Int) := by
  have e : IntKind.u8.wrap (n : Int) = (n : Int) % (2 ^ 8 : Int) := by unfold IntKind.wrap; rfl
  rw [e]
  omega
theorem ofInt8 (a : Nat) (ha : a < 256) : (BitVec.ofInt 8 (a : Int)).toNat = a := by
  simp; omega
theorem bits_and8 (a b : Nat) (ha : a < 256) (hb : b < 256) : bits .and .u8 (Int.ofNat a) (Int.ofNat b) = Int.ofNat (Nat.land a b) := by
  have h : Nat.land a b < 256 := Nat.lt_of_le_of_lt (Nat.and_le_left (n := a) (m := b)) ha
  show IntKind.u8.wrap (((BitVec.ofInt 8 (a : Int) &&& BitVec.ofInt 8 (b : Int)).toNat : Nat) : Int) = _
  rw [BitVec.toNat_and, ofInt8 a ha, ofInt8 b hb]
  exact wrap8 _ h
theorem bits_or8 (a b : Nat) (ha : a < 256) (hb : b < 256) : bits .or .u8 (Int.ofNat a) (Int.ofNat b) = Int.ofNat (Nat.lor a b) := by
  have h : Nat.lor a b < 256 := Nat.or_lt_two_pow (n := 8) ha hb
  show IntKind.u8.wrap (((BitVec.ofInt 8 (a : Int) ||| BitVec.ofInt 8 (b : Int)).toNat : Nat) : Int) = _
  rw [BitVec.toNat_or, ofInt8 a ha, ofInt8 b hb]
  exact wrap8 _ h
theorem bits_xor8 (a b : Nat) (ha : a < 256) (hb : b < 256) : bits .xor .u8 (Int.ofNat a) (Int.ofNat b) = Int.ofNat (Nat.xor a b) := by
  have h : Nat.xor a b < 256 := Nat.xor_lt_two_pow (n := 8) ha hb
  show IntKind.u8.wrap (((BitVec.ofInt 8 (a : Int) ^^^ BitVec.ofInt 8 (b : Int)).toNat : Nat) : Int) = _
  rw [BitVec.toNat_xor, ofInt8 a ha, ofInt8 b hb]
  exact wrap8 _ h
theorem max8 : IntKind.u8.max = Int.ofNat 255 := by decide


theorem cnt_all : ∀ n : Fin 256, cnt (Int.ofNat n.val) = Int.ofNat (zer8 n.val) := by decide +kernel
theorem cnt_zer (n : Nat) (h : n < 256) : cnt (Int.ofNat n) = Int.ofNat (zer8 n) := cnt_all ⟨n, h⟩
theorem zer8_le (n : Nat) : zer8 n ≤ 8 := by unfold zer8; omega


theorem sumZ_le : ∀ l : List Nat, sumZ l ≤ 8 * l.length
  | [] => by simp [sumZ]
  | n :: l => by
    have h1 := sumZ_le l
    have h2 := zer8_le n
    simp only [sumZ, List.length_cons]
    unfold zq
    split <;> omega

theorem cnts_sum (l : List Nat) (hb : ∀ n ∈ l, n < 256) (hl : l.length ≤ 1000000) : cnts (l.map Int.ofNat) = Int.ofNat (sumZ l) := by
  have key : ∀ (l : List Nat) (acc : Nat), (∀ n ∈ l, n < 256) → acc + 8 * l.length ≤ 100000000 → (l.map Int.ofNat).foldl (fun n c => wrap64 (n + cnt c)) (Int.ofNat acc) = Int.ofNat (acc + sumZ l) := by
    intro l
    induction l with
    | nil => intro acc _ _; simp [sumZ]
    | cons n l ih =>
      intro acc hb hl
      have hz := zer8_le n
      have hq : zq n = zer8 n := by
        unfold zq
        split
        · rename_i h9
          have := Ev.Nat_beq h9
          subst this
          rfl
        · rfl
      simp only [List.map_cons, List.foldl_cons, sumZ, hq]
      simp only [List.length_cons] at hl
      rw [cnt_zer n (hb n (by simp))]
      have e : wrap64 (Int.ofNat acc + Int.ofNat (zer8 n)) = Int.ofNat (acc + zer8 n) := by
        show wrap64 ((acc : Int) + (zer8 n : Int)) = ((acc + zer8 n : Nat) : Int)
        rw [IntWalk.wrap64_in _ (by omega)]
        omega
      rw [e, ih (acc + zer8 n) (fun m hm => hb m (by simp [hm])) (by omega), Nat.add_assoc]
  have := key l 0 hb (by omega)
  simpa [cnts] using this


theorem getD_map (l : List Nat) (i : Nat) : (l.map Int.ofNat).getD i 0 = Int.ofNat (atN l i) := by
  unfold atN
  rw [Ev.nth_eq]
  simp only [List.getD, List.getElem?_map]
  cases l[i]? <;> rfl
theorem atN_lt {l : List Nat} (hb : ∀ n ∈ l, n < 256) (i : Nat) : atN l i < 256 := by
  unfold atN
  rw [Ev.nth_eq]
  cases h : l[i]? with
  | none => decide
  | some b => exact hb b (List.mem_of_getElem? h)


theorem wrap_u64 (n : Nat) (h : n < 18446744073709551616) : IntKind.u64.wrap (n : Int) = (n : Int) := by
  have e : IntKind.u64.wrap (n : Int) = (n : Int) % (2 ^ 64 : Int) := by unfold IntKind.wrap; rfl
  rw [e]
  omega

theorem or_shift (a b : Nat) (ha : a < 72057594037927936) (hb : b < 256) : bits .or .u64 (Int.ofNat (a * 256)) (Int.ofNat b) = Int.ofNat (a * 256 + b) := by
  have h1 : ∀ x : Nat, x < 18446744073709551616 → (BitVec.ofInt 64 (x : Int)).toNat = x := fun x hx => by simp; omega
  show IntKind.u64.wrap (((BitVec.ofInt 64 ((a * 256 : Nat) : Int) ||| BitVec.ofInt 64 (b : Int)).toNat : Nat) : Int) = _
  rw [BitVec.toNat_or, h1 _ (by omega), h1 _ (by omega)]
  have h2 : a * 256 ||| b = a * 256 + b := by
    have := Nat.two_pow_add_eq_or_of_lt (i := 8) (b := b) hb a
    rw [Nat.mul_comm a 256]
    exact this.symm
  rw [h2]
  exact wrap_u64 _ (by omega)

theorem getN_lt {l : List Nat} (hb : ∀ n ∈ l, n < 256) (k : Nat) : ∀ i, getN l k i < 256 ^ i
  | 0 => by simp [getN]
  | i + 1 => by
    have h1 := getN_lt hb k i
    have h2 := atN_lt hb (k + i)
    simp only [getN, Nat.pow_succ]
    omega

theorem byteAt_map (l : List Nat) (i : Nat) : byteAt (l.map Int.ofNat) (i : Int) = Int.ofNat (atN l i) := by
  unfold byteAt
  rw [if_neg (by omega)]
  by_cases h : l.length ≤ i
  · rw [if_pos (by simp; omega)]
    unfold atN
    rw [Ev.nth_eq, List.getElem?_eq_none h]
    rfl
  · rw [if_neg (by simp; omega)]
    exact getD_map l i

theorem getV_get (l : List Nat) (hb : ∀ n ∈ l, n < 256) (k : Nat) (hk : k ≤ 1000000) : ∀ i, i ≤ 8 → getV (l.map Int.ofNat) (k : Int) i = Int.ofNat (getN l k i)
  | 0, _ => rfl
  | i + 1, hi => by
    have h1 := getN_lt hb k i
    have h2 := atN_lt hb (k + i)
    have h3 : 256 ^ i ≤ 256 ^ 7 := Nat.pow_le_pow_right (by decide) (by omega)
    simp only [getV, getN]
    rw [getV_get l hb k hk i (by omega)]
    have e1 : IntKind.u64.wrap (Int.ofNat (getN l k i) * 256) = Int.ofNat (getN l k i * 256) := by
      show IntKind.u64.wrap ((getN l k i : Int) * 256) = _
      have := wrap_u64 (getN l k i * 256) (by omega)
      rw [Int.natCast_mul] at this
      exact this
    have e2 : wrap64 ((k : Int) + (i : Int)) = ((k + i : Nat) : Int) := by rw [IntWalk.wrap64_in _ (by omega)]; omega
    rw [e1, e2, byteAt_map]
    have e3 : IntKind.u64.wrap (Int.ofNat (atN l (k + i))) = Int.ofNat (atN l (k + i)) := wrap_u64 _ (by omega)
    rw [e3]
    exact or_shift _ _ (by omega) h2


theorem putL_put (n w : Nat) : ∀ k, putL (n : Int) w k = (putN n w k).map Int.ofNat
  | 0 => rfl
  | k + 1 => by
    simp only [putL, putN, List.map_append, putL_put n w k, putB]
    congr 1
theorem putN_len (n w : Nat) : ∀ k, (putN n w k).length = k
  | 0 => rfl
  | k + 1 => by simp [putN, putN_len n w k]


theorem progB_prog (bs ms : List Nat) (hb : ∀ n ∈ bs, n < 256) (hm : ∀ n ∈ ms, n < 256) (i c : Nat) (hc : c < 256) :
    progB (bs.map Int.ofNat) (ms.map Int.ofNat) i (Int.ofNat c) = Int.ofNat (if bs.length ≤ i then c else progN c (atN bs i) (atN ms (i % ms.length))) := by
  unfold progB maskB
  simp only [List.length_map]
  split
  · rfl
  · have hx : Nat.xor 255 (atN ms (i % ms.length)) < 256 := Nat.xor_lt_two_pow (n := 8) (by decide) (atN_lt hm _)
    have ho : Nat.lor (atN bs i) (Nat.xor 255 (atN ms (i % ms.length))) < 256 := Nat.or_lt_two_pow (n := 8) (atN_lt hb _) hx
    rw [getD_map, getD_map, max8, bits_xor8 _ _ (by decide) (atN_lt hm _), bits_or8 _ _ (atN_lt hb _) hx, bits_and8 _ _ hc ho]
    rfl


theorem progL_prog (os bs ms : List Nat) (ho : ∀ n ∈ os, n < 256) (hb : ∀ n ∈ bs, n < 256) (hm : ∀ n ∈ ms, n < 256) : ∀ k, progL (os.map Int.ofNat) (bs.map Int.ofNat) (ms.map Int.ofNat) k = (progM os bs ms k).map Int.ofNat
  | 0 => rfl
  | k + 1 => by
    simp only [progL, progL_prog os bs ms ho hb hm k, getD_map]
    rw [progB_prog bs ms hb hm k _ (atN_lt ho k)]
    unfold progM
    rw [List.range_succ, List.map_append, List.map_append]
    rfl


theorem eraL_era (os ms : List Nat) (ho : ∀ n ∈ os, n < 256) (hm : ∀ n ∈ ms, n < 256) : ∀ k, eraL (os.map Int.ofNat) (ms.map Int.ofNat) k = (eraM os ms k).map Int.ofNat
  | 0 => rfl
  | k + 1 => by
    have e : eraB (ms.map Int.ofNat) k (Int.ofNat (atN os k)) = Int.ofNat (Nat.lor (atN os k) (atN ms (k % ms.length))) := by
      unfold eraB maskB
      simp only [List.length_map]
      rw [getD_map, bits_or8 _ _ (atN_lt ho _) (atN_lt hm _)]
    simp only [eraL, eraL_era os ms ho hm k, getD_map]
    rw [e]
    unfold eraM
    rw [List.range_succ, List.map_append, List.map_append]
    rfl
end Go.Proofs.Wag
namespace Go.Ev
open Go.Proofs Go.Proofs.Wag Go.RowKit
/-! Hot functions, told in numbers. -/
theorem mixed : Tryz.prog.follows .mixedOrders = true := by kernel_rfl

variable {φ : Phi} {S S' : St} {w w' : World}

/-- What leaves all that was there as it was. -/
theorem below_good (hR : Rel φ S w) (hg : Below w.heap.size w w') : Good φ φ S S w w' := by
  refine ⟨fun _ _ h => h, fun F l h h' => (by rw [h] at h'; cases h'), Nat.le_refl _, ⟨?_, hR.excl, ?_, hR.dom⟩, hg.os, hg.tape, hg.output, hg.size, fun b hb _ => hg.block b hb, fun F l h h' => (by rw [h] at h'; cases h'), fun F ob h => .inl ⟨ob, h⟩⟩
  · intro F ob h
    obtain ⟨l, hl, hr⟩ := hR.obs F ob h
    exact ⟨l, hl, hr.same (hg.block _ (hR.ids F l hl))⟩
  · intro F l h
    exact Nat.lt_of_lt_of_le (hR.ids F l h) hg.size

theorem bytesN_ok : ∀ {l : List Value} {r : List Nat}, bytesN l = some r → l = r.map (fun n => Value.int .u8 (Int.ofNat n)) ∧ ∀ n ∈ r, n < 256
  | [], r, h => by simp only [bytesN] at h; cases h; exact ⟨rfl, by simp⟩
  | v :: l, r, h => by
    simp only [bytesN] at h
    split at h
    · rename_i n
      split at h
      · rename_i hb
        split at h
        · rename_i l' hl'
          cases h
          obtain ⟨h1, h2⟩ := bytesN_ok hl'
          refine ⟨by rw [h1]; rfl, ?_⟩
          intro m hm
          rcases List.mem_cons.1 hm with rfl | hm
          · exact Nat_blt hb
          · exact h2 m hm
        · cases h
      · cases h
    · cases h

theorem bytesAt_ok {v v' : Value} {l : List Nat} (hR : Rel φ S w) (h : bytesAt S v = some l) (hv : RelV φ v v') :
    ∃ b off cap, v' = .slice (some ⟨b, off, none⟩) (l.map Int.ofNat).length cap ∧ b < w.heap.size ∧ (∀ j, j < (l.map Int.ofNat).length → w.cell? ⟨b, off + j, none⟩ = some (.int .u8 ((l.map Int.ofNat).getD j 0))) ∧ (∀ n ∈ l, n < 256) ∧ 0 < l.length ∧ l.length ≤ 1000000 := by
  unfold bytesAt at h
  split at h
  case h_2 => cases h
  rename_i F off n c
  split at h
  case h_2 => cases h
  rename_i hb
  rw [Bool.and_eq_true] at hb
  split at h
  case h_2 => cases h
  rename_i cs hcs
  obtain ⟨h1, h2⟩ := bytesN_ok h
  have hpos := Nat_blt hb.1
  have hbig := Nat_ble hb.2
  cases hv with
  | sl _ _ _ _ loc a cap hφ ha hc hn =>
    have := ha (by omega); subst this
    obtain ⟨cs', hrel, hlen, hcell, _⟩ := loadRow_sound Tryz.prog hR hcs hφ
    have hl : l.length = n := by rw [h1] at hlen; simpa using hlen
    refine ⟨loc.blk, loc.base + off, cap, by simp [hl], hR.ids F loc hφ, ?_, h2, by omega, by omega⟩
    intro j hj
    have hj' : j < l.length := by simpa using hj
    obtain ⟨m, hm⟩ : ∃ m, l[j]? = some m := ⟨_, List.getElem?_eq_getElem hj'⟩
    obtain ⟨x', hx', hr⟩ := hrel.get (i := j) (v := .int .u8 (Int.ofNat m)) (by rw [h1]; simp [hm])
    cases hr
    rw [hcell j _ hx']
    simp [List.getD, hm]

theorem owns_fresh {l : List Nat} {zs : List Int} {v : Value} {n : Nat} (hz : zs = l.map Int.ofNat) (hR : Rel φ S w) (hf : φ S.next = none) (hpos : 0 < l.length) (hn : n = l.length) {ty : Nat}
    (hown : w'.ownsRow w.heap.size ty 1 v n (zs.map (Value.int .u8))) (hB : Below w.heap.size w w') :
    ∃ φ', Good φ φ' S (S.new (mkRow (cellsN l) 1)) w w' ∧ RelV φ' (.slice (some ⟨S.next, 0, none⟩) l.length 0) v := by
  subst hz; subst hn
  obtain ⟨h1, h2⟩ := hown
  rcases h2 with ⟨_, h0⟩ | ⟨g, cap, cur, rfl, hg, hh, hcap, _, hsz, htake⟩
  · omega
  rw [Nat.mul_one] at hsz htake
  refine ⟨φ.put S.next ⟨g, 0, cap, 1⟩, ?_, ?_⟩
  · refine fresh_good hR hf hg (lt_of_block hh) hB.os hB.tape hB.output hB.size hB.block ?_
    refine ⟨cur, ty, (0, 0), hh, .inl (Nat.le_refl _), rfl, by simp [hsz], by simpa [cellsN] using hcap, fun i hi => ?_⟩
    have hi' : i < l.length := by simpa [cellsN] using hi
    obtain ⟨m, hm⟩ : ∃ m, l[i]? = some m := ⟨_, List.getElem?_eq_getElem hi'⟩
    refine ⟨.int .u8 (Int.ofNat m), .int .u8 (Int.ofNat m), ?_, ?_, .int _ _⟩
    · rw [Tr.get_pushL, if_pos ⟨Nat.zero_le _, by simpa [cellsN] using hi'⟩]
      simp [cellsN, hm]
    · have h3 : (cur.toList.take l.length)[i]? = some (.int .u8 (Int.ofNat m)) := by rw [htake]; simp [hm]
      rw [List.getElem?_take_of_lt hi', Array.getElem?_toList] at h3
      rw [Nat.zero_add]
      exact h3
  · have hr := RelV.sl (φ := φ.put S.next ⟨g, 0, cap, 1⟩) S.next 0 l.length 0 ⟨g, 0, cap, 1⟩ ⟨g, 0, none⟩ cap (by simp [Phi.put]) (fun _ => rfl) (by simp) hcap
    exact hr

theorem rel_nat {v : Value} {k : IntKind} {n : Nat} (h : RelV φ (.int k (.ofNat n)) v) : v = .int k (n : Int) := by cases h; rfl

set_option linter.unusedVariables false in
theorem ora_ok : OraOk Tryz.prog ora := by
  intro f args S v S' h φ w args' hR hf ha
  unfold ora at h
  obtain ⟨args'⟩ := args'
  split at h
  · rename_i hb
    have hb := Nat_beq hb; subst hb
    unfold countO at h
    split at h
    case h_2 => cases h
    split at h
    case h_2 => cases h
    rename_i l hl
    cases h
    cases ha with
    | cons _ v' _ l' h1 h2 =>
      cases h2
      obtain ⟨b, off, cap, rfl, hlt, hcell, h256, hpos, hbig⟩ := bytesAt_ok hR hl h1
      refine (Count_any b off (l.map Int.ofNat).length cap (l.map Int.ofNat) w (Nat.le_refl _) (by simp; omega) hcell).mono ?_
      rintro e w' ⟨rfl, rfl⟩
      rw [List.take_length, cnts_sum l h256 hbig]
      exact ⟨_, φ, rfl, Good.refl hR, .int _ _⟩
  split at h
  · rename_i hb
    have hb := Nat_beq hb; subst hb
    unfold onesO at h
    split at h
    case h_2 => cases h
    rename_i n
    split at h
    case h_2 => cases h
    rename_i hn
    rw [Bool.and_eq_true] at hn
    unfold freshO at h
    cases h
    cases ha with
    | cons _ v' _ l' h1 h2 =>
      cases h2
      rw [rel_nat h1]
      refine (ones_any n w (Nat_ble hn.1)).mono ?_
      rintro e w' ⟨v, rfl, hown, hB⟩
      have hpos := Nat_blt hn.2
      obtain ⟨φ', hg, hr⟩ := owns_fresh (l := List.replicate n 255) (by simp) hR (hf _ (Nat.le_refl _) (by rw [St.next_new]; omega)) (by simpa using hpos) (by simp) hown hB
      exact ⟨_, φ', rfl, hg, hr⟩
  split at h
  · rename_i hb
    have hb := Nat_beq hb; subst hb
    unfold getO at h
    split at h
    case h_2 => cases h
    rename_i v k wd
    split at h
    case h_2 => cases h
    rename_i hk
    have hk := Nat_ble hk
    split at h
    case h_2 => cases h
    rename_i l hl
    cases h
    cases ha with
    | cons _ v' _ l' h1 h2 =>
      cases h2 with
      | cons _ v2 _ l2 h3 h4 =>
        cases h4 with
        | cons _ v3 _ l3 h5 h6 =>
          cases h6
          rw [rel_nat h3, rel_nat h5]
          obtain ⟨b, off, cap, rfl, hlt, hcell, h256, hpos, hbig⟩ := bytesAt_ok hR hl h1
          have hwd : (min (max (wd : Int) 0) 8).toNat = cw wd := by
            unfold cw
            split
            · rename_i h9; have := Nat_ble h9; omega
            · rename_i h9
              have : ¬ wd ≤ 8 := fun h => by have : Nat.ble wd 8 = true := (by simpa using h); rw [h9] at this; cases this
              omega
          have hwd8 : cw wd ≤ 8 := by rw [← hwd]; omega
          by_cases hkl : l.length < k
          · have e1 : ck l.length k = l.length := by
              have : Nat.blt l.length k = true := by simpa using hkl
              unfold ck
              rw [this]
            rw [e1]
            refine (get_any1 b off cap (l.map Int.ofNat) k wd w hlt (by simp; omega) hcell (by simp; omega)).mono ?_
            rintro e w' ⟨rfl, hB⟩
            rw [hwd, show (((l.map Int.ofNat).length : Nat) : Int) = ((l.length : Nat) : Int) from by simp, getV_get l h256 l.length hbig _ hwd8]
            exact ⟨_, φ, rfl, below_good hR hB, .int _ _⟩
          · have e1 : ck l.length k = k := by
              unfold ck
              have : Nat.blt l.length k = false := by
                cases h9 : Nat.blt l.length k with
                | false => rfl
                | true => exact absurd (Nat_blt h9) hkl
              rw [this]
            rw [e1]
            refine (get_any3 b off cap (l.map Int.ofNat) k wd w hlt (by simp; omega) hcell (by simp; omega) (by omega)).mono ?_
            rintro e w' ⟨rfl, hB⟩
            rw [hwd, getV_get l h256 k hk _ hwd8]
            exact ⟨_, φ, rfl, below_good hR hB, .int _ _⟩
  split at h
  · rename_i hb
    have hb := Nat_beq hb; subst hb
    unfold putO at h
    split at h
    case h_2 => cases h
    rename_i v wd n
    split at h
    case h_2 => cases h
    rename_i hw
    rw [Bool.and_eq_true] at hw
    have hw8 := Nat_ble hw.1
    have hw0 := Nat_blt hw.2
    split at h
    · unfold freshO at h
      cases h
      cases ha with
      | cons _ v' _ l' h1 h2 =>
        cases h2 with
        | cons _ v2 _ l2 h3 h4 =>
          cases h4 with
          | cons _ v3 _ l3 h5 h6 =>
            cases h6
            cases h1
            rw [rel_nat h3, rel_nat h5]
            refine (put_nil wd n w hw8).mono ?_
            rintro e w' ⟨v, rfl, hown, hB⟩
            obtain ⟨φ', hg, hr⟩ := owns_fresh (putL_put n wd wd) hR (hf _ (Nat.le_refl _) (by rw [St.next_new]; omega)) (by rw [putN_len]; exact hw0) (by rw [putN_len]) hown hB
            exact ⟨_, φ', rfl, hg, hr⟩
    · split at h
      case h_2 => cases h
      rename_i l hl
      unfold freshO at h
      cases h
      cases ha with
      | cons _ v' _ l' h1 h2 =>
        cases h2 with
        | cons _ v2 _ l2 h3 h4 =>
          cases h4 with
          | cons _ v3 _ l3 h5 h6 =>
            cases h6
            rw [rel_nat h3, rel_nat h5]
            obtain ⟨b, off, cap, rfl, hlt, hcell, h256, hpos, hbig⟩ := bytesAt_ok hR hl h1
            refine (put_any b off cap (l.map Int.ofNat) wd n w hw8 (by simp; omega) hcell).mono ?_
            rintro e w' ⟨v, rfl, hown, hB⟩
            obtain ⟨φ', hg, hr⟩ := owns_fresh (l := l ++ putN n wd wd) (by rw [putL_put]; simp) hR (hf _ (Nat.le_refl _) (by rw [St.next_new]; omega)) (by simp; omega) (by simp [putN_len]) hown hB
            exact ⟨_, φ', rfl, hg, hr⟩
  split at h
  · rename_i hb
    have hb := Nat_beq hb; subst hb
    unfold progO at h
    split at h
    case h_2 => cases h
    split at h
    case h_2 => cases h
    rename_i os hos
    split at h
    case h_2 => cases h
    rename_i bs hbs
    split at h
    case h_2 => cases h
    rename_i ms hms
    unfold freshO at h
    cases h
    cases ha with
    | cons _ v' _ l' h1 h2 =>
      cases h2 with
      | cons _ v2 _ l2 h3 h4 =>
        cases h4 with
        | cons _ v3 _ l3 h5 h6 =>
          cases h6
          obtain ⟨ob, oo, oc, rfl, olt, ocell, o256, opos, obig⟩ := bytesAt_ok hR hos h1
          obtain ⟨bb, bo, bc, rfl, blt, bcell, b256, bpos, bbig⟩ := bytesAt_ok hR hbs h3
          obtain ⟨mb, mo, mc, rfl, mlt, mcell, m256, mpos, mbig⟩ := bytesAt_ok hR hms h5
          refine (program_any ob oo oc bb bo bc mb mo mc (os.map Int.ofNat) (bs.map Int.ofNat) (ms.map Int.ofNat) w (by simp; omega) (by simp; omega) (by simpa using mpos) (by simp; omega) olt blt mlt ocell bcell mcell).mono ?_
          rintro e w' ⟨v, rfl, hown, hB⟩
          have hlen : (progM os bs ms os.length).length = os.length := by simp [progM]
          obtain ⟨φ', hg, hr⟩ := owns_fresh (l := progM os bs ms os.length) (progL_prog os bs ms o256 b256 m256 os.length) hR (hf _ (Nat.le_refl _) (by rw [St.next_new]; omega)) (by omega) hlen.symm (by simpa using hown) hB
          exact ⟨_, φ', rfl, hg, hr⟩
  split at h
  case h_2 => cases h
  rename_i hb
  have hb := Nat_beq hb; subst hb
  unfold eraO at h
  split at h
  case h_2 => cases h
  split at h
  case h_2 => cases h
  rename_i os hos
  split at h
  case h_2 => cases h
  rename_i ms hms
  unfold freshO at h
  cases h
  cases ha with
  | cons _ v' _ l' h1 h2 =>
    cases h2 with
    | cons _ v2 _ l2 h3 h4 =>
      cases h4
      obtain ⟨ob, oo, oc, rfl, olt, ocell, o256, opos, obig⟩ := bytesAt_ok hR hos h1
      obtain ⟨mb, mo, mc, rfl, mlt, mcell, m256, mpos, mbig⟩ := bytesAt_ok hR hms h3
      refine (erase_any ob oo oc mb mo mc (os.map Int.ofNat) (ms.map Int.ofNat) w (by simp; omega) (by simpa using mpos) (by simp; omega) olt mlt ocell mcell).mono ?_
      rintro e w' ⟨v, rfl, hown, hB⟩
      have hlen : (eraM os ms os.length).length = os.length := by simp [eraM]
      obtain ⟨φ', hg, hr⟩ := owns_fresh (l := eraM os ms os.length) (eraL_era os ms o256 m256 os.length) hR (hf _ (Nat.le_refl _) (by rw [St.next_new]; omega)) (by omega) hlen.symm (by simpa using hown) hB
      exact ⟨_, φ', rfl, hg, hr⟩
end Go.Ev
