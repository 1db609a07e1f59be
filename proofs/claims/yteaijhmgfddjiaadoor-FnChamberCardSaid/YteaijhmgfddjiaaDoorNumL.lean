/- Decimal texts that stand for a number: which they are, and which number. No program in sight. -/
import Derived.Test.YteaijhmgfddjiaaDoorListL
import Derived.Lib.AtoiTie
import Derived.Lib.ParseIntBTie
set_option linter.unusedSimpArgs false
set_option linter.unnecessarySimpa false
set_option linter.unusedVariables false
set_option maxRecDepth 100000
namespace Go.Proofs.YteaijhmgfddjiaaDoor
open Go.RowKit

/-- The number that a row of digits spells. -/
def valD (acc : Nat) (l : List UInt8) : Nat := l.foldl (fun a b => a * 10 + (b.toNat - 48)) acc
theorem valD_nil (acc : Nat) : valD acc [] = acc := List.foldl_nil
theorem valD_cons (acc : Nat) (b : UInt8) (r : List UInt8) : valD acc (b :: r) = valD (acc * 10 + (b.toNat - 48)) r := List.foldl_cons
def dig (b : UInt8) : Prop := 48 ≤ b.toNat ∧ b.toNat ≤ 57
instance (b : UInt8) : Decidable (dig b) := by unfold dig; infer_instance
theorem valD_snoc (r : List UInt8) (b : UInt8) (acc : Nat) : valD acc (r ++ [b]) = valD acc r * 10 + (b.toNat - 48) := by
  unfold valD
  rw [List.foldl_append, List.foldl_cons, List.foldl_nil]
theorem valD_take {l : List UInt8} {k : Nat} (h : k < l.length) : valD 0 (l.take (k + 1)) = valD 0 (l.take k) * 10 + (l[k].toNat - 48) := by
  rw [List.take_succ_eq_append_getElem h, valD_snoc]
theorem valD_lt (l : List UInt8) (h : ∀ b ∈ l, dig b) : valD 0 l < 10 ^ l.length := by
  have key : ∀ k, k ≤ l.length → valD 0 (l.take k) < 10 ^ k := by
    intro k
    induction k with
    | zero => intro _; simp [valD_nil]
    | succ k ih =>
      intro hk
      rw [valD_take (show k < l.length by omega), Nat.pow_succ]
      have := ih (by omega)
      have := h _ (List.getElem_mem (show k < l.length by omega))
      unfold dig at this
      omega
  have := key _ (Nat.le_refl _)
  rwa [List.take_length] at this
/-- Digits as they are written: no 0 ahead but for 0 itself. -/
structure Canon (r : List UInt8) : Prop where
  ne : r ≠ []
  digs : ∀ b ∈ r, dig b
  first : r.head? = some 48 → r = [48]
instance (r : List UInt8) : Decidable (Canon r) := decidable_of_iff (r ≠ [] ∧ (∀ b ∈ r, dig b) ∧ (r.head? = some 48 → r = [48])) ⟨fun h => ⟨h.1, h.2.1, h.2.2⟩, fun h => ⟨h.1, h.2, h.3⟩⟩
theorem decDigits_snoc {v d : Nat} (hv : 0 < v) (hd : d < 10) : Lib.decDigits (v * 10 + d) = Lib.decDigits v ++ [UInt8.ofNat (48 + d)] := by
  rw [Lib.decDigits, dif_neg (by omega), show (v * 10 + d) / 10 = v by omega, show (v * 10 + d) % 10 = d by omega]
theorem canon_take {r : List UInt8} (h : Canon r) : ∀ k, 0 < k → k ≤ r.length → Lib.decDigits (valD 0 (r.take k)) = r.take k ∧ (1 < r.length → 0 < valD 0 (r.take k)) := by
  intro k
  induction k with
  | zero => intro h0; omega
  | succ k ih =>
    intro _ hk
    have hk' : k < r.length := by omega
    have hd := h.digs _ (List.getElem_mem hk')
    unfold dig at hd
    by_cases k0 : k = 0
    · subst k0
      have e : r.take 1 = [r[0]] := by rw [List.take_succ_eq_append_getElem hk']; simp
      rw [e]
      have e2 : valD 0 [r[0]] = r[0].toNat - 48 := by rw [valD_cons, valD_nil]; omega
      rw [e2, Lib.decDigits, dif_pos (by omega), show 48 + (r[0].toNat - 48) = r[0].toNat by omega]
      refine ⟨by simp, fun hl => ?_⟩
      by_cases e48 : r[0] = 48
      · have := h.first (by rw [List.head?_eq_getElem?, List.getElem?_eq_getElem hk', e48])
        rw [this] at hl; simp at hl
      · have : r[0].toNat ≠ 48 := fun e => e48 (by rw [← UInt8.toNat_inj]; exact e)
        omega
    · obtain ⟨h1, h2⟩ := ih (by omega) (by omega)
      have hpos := h2 (by omega)
      rw [valD_take hk', decDigits_snoc hpos (by omega), h1, List.take_succ_eq_append_getElem hk', show 48 + (r[k].toNat - 48) = r[k].toNat by omega]
      refine ⟨by simp, fun _ => by omega⟩
theorem canon_dec {r : List UInt8} (h : Canon r) : Lib.decDigits (valD 0 r) = r := by
  have hl : 0 < r.length := List.length_pos_iff.2 h.ne
  have := (canon_take h r.length hl (Nat.le_refl _)).1
  rwa [List.take_length] at this
theorem dec_canon (u : Nat) : Canon (Lib.decDigits u) ∧ valD 0 (Lib.decDigits u) = u := by
  induction u using Nat.strongRecOn with
  | _ u ih =>
    by_cases h : u < 10
    · rw [Lib.decDigits, dif_pos h]
      have e : (UInt8.ofNat (48 + u)).toNat = 48 + u := ofNat_toNat (by omega)
      refine ⟨⟨by simp, fun b hb => ?_, fun hh => ?_⟩, ?_⟩
      · rw [List.mem_singleton.1 hb]; unfold dig; rw [e]; omega
      · simp only [List.head?_cons, Option.some.injEq] at hh
        rw [hh]
      · rw [valD_cons, valD_nil, e]; omega
    · obtain ⟨h1, h2⟩ := ih (u / 10) (by omega)
      rw [Lib.decDigits, dif_neg h]
      have e : (UInt8.ofNat (48 + u % 10)).toNat = 48 + u % 10 := ofNat_toNat (by omega)
      refine ⟨⟨by simp, fun b hb => ?_, fun hh => ?_⟩, ?_⟩
      · rcases List.mem_append.1 hb with hb | hb
        · exact h1.digs b hb
        · rw [List.mem_singleton.1 hb]; unfold dig; rw [e]; omega
      · exfalso
        rw [List.head?_append] at hh
        cases hd : (Lib.decDigits (u / 10)).head? with
        | none => exact h1.ne (List.head?_eq_none_iff.1 hd)
        | some b =>
          rw [hd] at hh
          simp only [Option.some_or, Option.some.injEq] at hh
          have := h1.first (by rw [hd, hh])
          rw [this] at h2
          rw [valD_cons, valD_nil] at h2
          have e48 : (48 : UInt8).toNat = 48 := rfl
          omega
      · rw [valD_snoc, h2, e]; omega
theorem dec_inj {u v : Nat} (h : Lib.decDigits u = Lib.decDigits v) : u = v := by rw [← (dec_canon u).2, h, (dec_canon v).2]
theorem dec_head (u : Nat) : (Lib.decDigits u).head? ≠ some 45 := fun h => by
  have hc := (dec_canon u).1
  cases hd : Lib.decDigits u with
  | nil => exact hc.ne hd
  | cons b r =>
    rw [hd] at h hc
    simp only [List.head?_cons, Option.some.injEq] at h
    have := hc.digs b (by simp)
    rw [h] at this
    unfold dig at this
    revert this; decide
theorem itoa_inj {n m : Int} (h : Lib.itoa n = Lib.itoa m) : n = m := by
  by_cases hn : n < 0 <;> by_cases hm : m < 0
  · rw [itoa_negs hn, itoa_negs hm] at h
    have := dec_inj (List.cons.inj h).2
    omega
  · rw [itoa_negs hn, itoa_pos (by omega)] at h
    exact absurd (by rw [← h]; rfl) (dec_head m.natAbs)
  · rw [itoa_pos (by omega), itoa_negs hm] at h
    exact absurd (by rw [h]; rfl) (dec_head n.natAbs)
  · rw [itoa_pos (by omega), itoa_pos (by omega)] at h
    have := dec_inj h
    omega

/-- The digits of a text behind its sign. -/
def body (l : List UInt8) : List UInt8 := if l.head? = some 45 then l.drop 1 else l
/-- The text stands for a number of at most 18 digits. -/
def numOk (l : List UInt8) : Bool := decide (Canon (body l) ∧ (body l).length ≤ 18 ∧ (l.head? = some 45 → body l ≠ [48]))
/-- The number that a text stands for; 0 for none. -/
def numV (l : List UInt8) : Int := if numOk l = true then (if l.head? = some 45 then -(valD 0 (body l) : Int) else (valD 0 (body l) : Int)) else 0
theorem head_cons {l : List UInt8} (h : l.head? = some 45) : l = 45 :: l.drop 1 := by
  cases l with
  | nil => cases h
  | cons b r => simp only [List.head?_cons, Option.some.injEq] at h; subst h; rfl
theorem num_itoa {l : List UInt8} (h : numOk l = true) : Lib.itoa (numV l) = l := by
  unfold numV
  rw [if_pos h]
  obtain ⟨h1, h2, h3⟩ := of_decide_eq_true h
  have hd := canon_dec h1
  by_cases g : l.head? = some 45
  · rw [if_pos g]
    have hb : body l = l.drop 1 := if_pos g
    have hv : 0 < valD 0 (body l) := by
      rcases Nat.eq_zero_or_pos (valD 0 (body l)) with e | e
      · rw [e] at hd
        exact absurd (by rw [← hd, Lib.decDigits, dif_pos (by omega)]; rfl) (h3 g)
      · exact e
    rw [itoa_negs (by omega), show (-(valD 0 (body l) : Int)).natAbs = valD 0 (body l) by omega, hd, hb]
    exact (head_cons g).symm
  · rw [if_neg g]
    have hb : body l = l := if_neg g
    rw [itoa_pos (by omega), show ((valD 0 (body l) : Int)).natAbs = valD 0 (body l) by omega, hd, hb]
theorem itoa_num {n : Int} (h : -1000000000000000000 < n) (h' : n < 1000000000000000000) : numOk (Lib.itoa n) = true ∧ numV (Lib.itoa n) = n := by
  have hlen : ∀ u : Nat, u < 1000000000000000000 → (Lib.decDigits u).length ≤ 18 := fun u hu => by
    rw [Lib.decDigits_length]
    rcases Nat.lt_or_ge (Lib.nDigits u) 19 with g | g
    · omega
    · exfalso
      by_cases h0 : u = 0
      · rw [h0, Lib.nDigits_small (by omega)] at g; omega
      · have hc := (dec_canon u).1
        have hv := (dec_canon u).2
        have key : 10 ^ ((Lib.decDigits u).length - 1) ≤ u := by
          have : ∀ v : Nat, 0 < v → 10 ^ (Lib.nDigits v - 1) ≤ v := by
            intro v
            induction v using Nat.strongRecOn with
            | _ v ih =>
              intro hv
              by_cases g : v < 10
              · rw [Lib.nDigits_small g]; simp; omega
              · rw [Lib.nDigits_big g]
                have := ih (v / 10) (by omega) (by omega)
                have hp := Lib.nDigits_pos (v / 10)
                rw [show Lib.nDigits (v / 10) + 1 - 1 = Lib.nDigits (v / 10) - 1 + 1 by omega, Nat.pow_succ]
                omega
          rw [Lib.decDigits_length]; exact this u (by omega)
        rw [Lib.decDigits_length] at key
        have : 10 ^ 18 ≤ 10 ^ (Lib.nDigits u - 1) := Nat.pow_le_pow_right (by omega) (by omega)
        omega
  have hk : numOk (Lib.itoa n) = true := by
    unfold numOk
    refine decide_eq_true ?_
    by_cases g : n < 0
    · rw [itoa_negs g]
      have hb : body (45 :: Lib.decDigits n.natAbs) = Lib.decDigits n.natAbs := by simp [body]
      rw [hb]
      refine ⟨(dec_canon _).1, hlen _ (by omega), fun _ e => ?_⟩
      have e0 : Lib.decDigits 0 = [48] := by rw [Lib.decDigits, dif_pos (by omega)]; rfl
      have := dec_inj (e.trans e0.symm)
      omega
    · rw [itoa_pos (by omega)]
      have hb : body (Lib.decDigits n.natAbs) = Lib.decDigits n.natAbs := if_neg (dec_head _)
      rw [hb]
      exact ⟨(dec_canon _).1, hlen _ (by omega), fun e => absurd e (dec_head _)⟩
  exact ⟨hk, itoa_inj (num_itoa hk)⟩
theorem numV_bd {l : List UInt8} : -1000000000000000000 < numV l ∧ numV l < 1000000000000000000 := by
  unfold numV
  split
  · rename_i h
    obtain ⟨h1, h2, _⟩ := of_decide_eq_true h
    have h3 := valD_lt _ h1.digs
    have h4 : 10 ^ (body l).length ≤ 10 ^ 18 := Nat.pow_le_pow_right (by omega) h2
    split <;> omega
  · omega
theorem num_i64 (l : List UInt8) : I64 (numV l) := by
  have := numV_bd (l := l)
  simp only [I64, Lit.wf, IntKind.min, IntKind.max, IntKind.signed, IntKind.bits]; simp; omega

theorem decFrom_digs : ∀ (r : List UInt8) (acc : Nat), (∀ b ∈ r, dig b) → Lib.decFrom acc r = some (valD acc r)
  | [], acc, _ => rfl
  | b :: r, acc, h => by
    have hb := h b (by simp)
    unfold dig at hb
    simp only [Lib.decFrom, Lib.digitVal, if_pos hb, valD_cons]
    exact decFrom_digs r _ fun c hc => h c (by simp [hc])
/-- What the library's parser gives at such a text. -/
theorem parse_num {l : List UInt8} (h : numOk l = true) : Lib.parseIntB 64 l = .ok (numV l) := by
  obtain ⟨h1, h2, h3⟩ := of_decide_eq_true h
  have hne := h1.ne
  have hn : Lib.decNat (body l) = some (valD 0 (body l)) := by
    unfold Lib.decNat
    rw [if_neg (by simpa [List.isEmpty_iff] using hne)]
    exact decFrom_digs _ 0 h1.digs
  rw [Lib.parseIntB_64]
  unfold numV
  rw [if_pos h]
  by_cases g : l.head? = some 45
  · have hb : body l = l.drop 1 := if_pos g
    rw [if_pos g]
    have hs := Lib.signed_short (l := body l) h2
    rw [hn] at hs
    rw [head_cons g, Lib.atoiAll_minus, ← hb, hs]
    rfl
  · have hb : body l = l := if_neg g
    rw [if_neg g]
    rw [hb] at hn h1 h2 hne ⊢
    have hs := Lib.signless_short (l := l) h2
    rw [hn] at hs
    obtain ⟨b, r, rfl⟩ : ∃ b r, l = b :: r := by
      cases l with
      | nil => exact absurd rfl hne
      | cons b r => exact ⟨b, r, rfl⟩
    have hd := h1.digs b (by simp)
    unfold dig at hd
    rw [Lib.atoiAll_plain b r (by omega) (by omega), hs]
    rfl

end Go.Proofs.YteaijhmgfddjiaaDoor
