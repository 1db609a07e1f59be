import Derived.Test.YtgdfecnpkjnhnaaGreatDoorFtZ11
import Derived.Lib.AtoiTie
import Derived.Lib.ParseIntBTie
import Derived.Lib.SplitLaws
import Derived.Lib.Split
import Derived.Lib.IndexMore
import Derived.Test.YtgdfecnpkjnhnaaGreatDoorFtZ1
/- Decimal texts that stand for a number: which they are, and which number. No program in sight. -/
set_option linter.unusedSimpArgs false
set_option linter.unnecessarySimpa false
set_option linter.unusedVariables false
set_option maxRecDepth 100000
namespace Go.Proofs.YtgdfecnpkjnhnaaGreatDoor
open Go.RowKit

/-- The number that a row of digits spells. -/
def valD (acc : Nat) (l : List UInt8) : Nat := l.foldl (fun a b => a * 10 + (b.toNat - 48)) acc
theorem valD_nil (acc : Nat) : valD acc [] = acc := List.foldl_nil
theorem valD_cons (acc : Nat) (b : UInt8) (r : List UInt8) : valD acc (b :: r) = valD (acc * 10 + (b.toNat - 48)) r := List.foldl_cons
def dig (b : UInt8) : Prop := 48 ≤ b.toNat ∧ b.toNat ≤ 57
instance (b : UInt8) : Decidable (dig b) := by unfold dig; infer_instance
theorem valD_snoc (r : List UInt8) (b : UInt8) (acc : Nat) : valD acc (r ++ [b]) = valD acc r * 10 + (b.toNat - 48) := by
  unfold valD
  rw [List.foldl_append, List.foldl_cons, List.foldl_nil]
theorem valD_take {l : List UInt8} {k : Nat} (h : k < l.length) : valD 0 (l.take (k + 1)) = valD 0 (l.take k) * 10 + (l[k].toNat - 48) := by
  rw [List.take_succ_eq_append_getElem h, valD_snoc]
theorem valD_lt (l : List UInt8) (h : ∀ b ∈ l, dig b) : valD 0 l < 10 ^ l.length := by
  have key : ∀ k, k ≤ l.length → valD 0 (l.take k) < 10 ^ k := by
    intro k
    induction k with
    | zero => intro _; simp [valD_nil]
    | succ k ih =>
      intro hk
      rw [valD_take (show k < l.length by omega), Nat.pow_succ]
      have := ih (by omega)
      have := h _ (List.getElem_mem (show k < l.length by omega))
      unfold dig at this
      omega
  have := key _ (Nat.le_refl _)
  rwa [List.take_length] at this
/-- Digits as they are written: no 0 ahead but for 0 itself. -/
structure Canon (r : List UInt8) : Prop where
  ne : r ≠ []
  digs : ∀ b ∈ r, dig b
  first : r.head? = some 48 → r = [48]
instance (r : List UInt8) : Decidable (Canon r) := decidable_of_iff (r ≠ [] ∧ (∀ b ∈ r, dig b) ∧ (r.head? = some 48 → r = [48])) ⟨fun h => ⟨h.1, h.2.1, h.2.2⟩, fun h => ⟨h.1, h.2, h.3⟩⟩
theorem decDigits_snoc {v d : Nat} (hv : 0 < v) (hd : d < 10) : Lib.decDigits (v * 10 + d) = Lib.decDigits v ++ [UInt8.ofNat (48 + d)] := by
  rw [Lib.decDigits, dif_neg (by omega), show (v * 10 + d) / 10 = v by omega, show (v * 10 + d) % 10 = d by omega]
theorem canon_take {r : List UInt8} (h : Canon r) : ∀ k, 0 < k → k ≤ r.length → Lib.decDigits (valD 0 (r.take k)) = r.take k ∧ (1 < r.length → 0 < valD 0 (r.take k)) := by
  intro k
  induction k with
  | zero => intro h0; omega
  | succ k ih =>
    intro _ hk
    have hk' : k < r.length := by omega
    have hd := h.digs _ (List.getElem_mem hk')
    unfold dig at hd
    by_cases k0 : k = 0
    · subst k0
      have e : r.take 1 = [r[0]] := by rw [List.take_succ_eq_append_getElem hk']; simp
      rw [e]
      have e2 : valD 0 [r[0]] = r[0].toNat - 48 := by rw [valD_cons, valD_nil]; omega
      rw [e2, Lib.decDigits, dif_pos (by omega), show 48 + (r[0].toNat - 48) = r[0].toNat by omega]
      refine ⟨by simp, fun hl => ?_⟩
      by_cases e48 : r[0] = 48
      · have := h.first (by rw [List.head?_eq_getElem?, List.getElem?_eq_getElem hk', e48])
        rw [this] at hl; simp at hl
      · have : r[0].toNat ≠ 48 := fun e => e48 (by rw [← UInt8.toNat_inj]; exact e)
        omega
    · obtain ⟨h1, h2⟩ := ih (by omega) (by omega)
      have hpos := h2 (by omega)
      rw [valD_take hk', decDigits_snoc hpos (by omega), h1, List.take_succ_eq_append_getElem hk', show 48 + (r[k].toNat - 48) = r[k].toNat by omega]
      refine ⟨by simp, fun _ => by omega⟩
theorem canon_dec {r : List UInt8} (h : Canon r) : Lib.decDigits (valD 0 r) = r := by
  have hl : 0 < r.length := List.length_pos_iff.2 h.ne
  have := (canon_take h r.length hl (Nat.le_refl _)).1
  rwa [List.take_length] at this
theorem dec_canon (u : Nat) : Canon (Lib.decDigits u) ∧ valD 0 (Lib.decDigits u) = u := by
  induction u using Nat.strongRecOn with
  | _ u ih =>
    by_cases h : u < 10
    · rw [Lib.decDigits, dif_pos h]
      have e : (UInt8.ofNat (48 + u)).toNat = 48 + u := ofNat_toNat (by omega)
      refine ⟨⟨by simp, fun b hb => ?_, fun hh => ?_⟩, ?_⟩
      · rw [List.mem_singleton.1 hb]; unfold dig; rw [e]; omega
      · simp only [List.head?_cons, Option.some.injEq] at hh
        rw [hh]
      · rw [valD_cons, valD_nil, e]; omega
    · obtain ⟨h1, h2⟩ := ih (u / 10) (by omega)
      rw [Lib.decDigits, dif_neg h]
      have e : (UInt8.ofNat (48 + u % 10)).toNat = 48 + u % 10 := ofNat_toNat (by omega)
      refine ⟨⟨by simp, fun b hb => ?_, fun hh => ?_⟩, ?_⟩
      · rcases List.mem_append.1 hb with hb | hb
        · exact h1.digs b hb
        · rw [List.mem_singleton.1 hb]; unfold dig; rw [e]; omega
      · exfalso
        rw [List.head?_append] at hh
        cases hd : (Lib.decDigits (u / 10)).head? with
        | none => exact h1.ne (List.head?_eq_none_iff.1 hd)
        | some b =>
          rw [hd] at hh
          simp only [Option.some_or, Option.some.injEq] at hh
          have := h1.first (by rw [hd, hh])
          rw [this] at h2
          rw [valD_cons, valD_nil] at h2
          have e48 : (48 : UInt8).toNat = 48 := rfl
          omega
      · rw [valD_snoc, h2, e]; omega
theorem dec_inj {u v : Nat} (h : Lib.decDigits u = Lib.decDigits v) : u = v := by rw [← (dec_canon u).2, h, (dec_canon v).2]
theorem dec_head (u : Nat) : (Lib.decDigits u).head? ≠ some 45 := fun h => by
  have hc := (dec_canon u).1
  cases hd : Lib.decDigits u with
  | nil => exact hc.ne hd
  | cons b r =>
    rw [hd] at h hc
    simp only [List.head?_cons, Option.some.injEq] at h
    have := hc.digs b (by simp)
    rw [h] at this
    unfold dig at this
    revert this; decide
theorem itoa_inj {n m : Int} (h : Lib.itoa n = Lib.itoa m) : n = m := by
  by_cases hn : n < 0 <;> by_cases hm : m < 0
  · rw [itoa_negs hn, itoa_negs hm] at h
    have := dec_inj (List.cons.inj h).2
    omega
  · rw [itoa_negs hn, itoa_pos (by omega)] at h
    exact absurd (by rw [← h]; rfl) (dec_head m.natAbs)
  · rw [itoa_pos (by omega), itoa_negs hm] at h
    exact absurd (by rw [h]; rfl) (dec_head n.natAbs)
  · rw [itoa_pos (by omega), itoa_pos (by omega)] at h
    have := dec_inj h
    omega

/-- The digits of a text behind its sign. -/
def body (l : List UInt8) : List UInt8 := if l.head? = some 45 then l.drop 1 else l
/-- The text stands for a number of at most 18 digits. -/
def numOk (l : List UInt8) : Bool := decide (Canon (body l) ∧ (body l).length ≤ 18 ∧ (l.head? = some 45 → body l ≠ [48]))
/-- The number that a text stands for; 0 for none. -/
def numV (l : List UInt8) : Int := if numOk l = true then (if l.head? = some 45 then -(valD 0 (body l) : Int) else (valD 0 (body l) : Int)) else 0
theorem head_cons {l : List UInt8} (h : l.head? = some 45) : l = 45 :: l.drop 1 := by
  cases l with
  | nil => cases h
  | cons b r => simp only [List.head?_cons, Option.some.injEq] at h; subst h; rfl
theorem num_itoa {l : List UInt8} (h : numOk l = true) : Lib.itoa (numV l) = l := by
  unfold numV
  rw [if_pos h]
  obtain ⟨h1, h2, h3⟩ := of_decide_eq_true h
  have hd := canon_dec h1
  by_cases g : l.head? = some 45
  · rw [if_pos g]
    have hb : body l = l.drop 1 := if_pos g
    have hv : 0 < valD 0 (body l) := by
      rcases Nat.eq_zero_or_pos (valD 0 (body l)) with e | e
      · rw [e] at hd
        exact absurd (by rw [← hd, Lib.decDigits, dif_pos (by omega)]; rfl) (h3 g)
      · exact e
    rw [itoa_negs (by omega), show (-(valD 0 (body l) : Int)).natAbs = valD 0 (body l) by omega, hd, hb]
    exact (head_cons g).symm
  · rw [if_neg g]
    have hb : body l = l := if_neg g
    rw [itoa_pos (by omega), show ((valD 0 (body l) : Int)).natAbs = valD 0 (body l) by omega, hd, hb]
theorem itoa_num {n : Int} (h : -1000000000000000000 < n) (h' : n < 1000000000000000000) : numOk (Lib.itoa n) = true ∧ numV (Lib.itoa n) = n := by
  have hlen : ∀ u : Nat, u < 1000000000000000000 → (Lib.decDigits u).length ≤ 18 := fun u hu => by
    rw [Lib.decDigits_length]
    rcases Nat.lt_or_ge (Lib.nDigits u) 19 with g | g
    · omega
    · exfalso
      by_cases h0 : u = 0
      · rw [h0, Lib.nDigits_small (by omega)] at g; omega
      · have hc := (dec_canon u).1
        have hv := (dec_canon u).2
        have key : 10 ^ ((Lib.decDigits u).length - 1) ≤ u := by
          have : ∀ v : Nat, 0 < v → 10 ^ (Lib.nDigits v - 1) ≤ v := by
            intro v
            induction v using Nat.strongRecOn with
            | _ v ih =>
              intro hv
              by_cases g : v < 10
              · rw [Lib.nDigits_small g]; simp; omega
              · rw [Lib.nDigits_big g]
                have := ih (v / 10) (by omega) (by omega)
                have hp := Lib.nDigits_pos (v / 10)
                rw [show Lib.nDigits (v / 10) + 1 - 1 = Lib.nDigits (v / 10) - 1 + 1 by omega, Nat.pow_succ]
                omega
          rw [Lib.decDigits_length]; exact this u (by omega)
        rw [Lib.decDigits_length] at key
        have : 10 ^ 18 ≤ 10 ^ (Lib.nDigits u - 1) := Nat.pow_le_pow_right (by omega) (by omega)
        omega
  have hk : numOk (Lib.itoa n) = true := by
    unfold numOk
    refine decide_eq_true ?_
    by_cases g : n < 0
    · rw [itoa_negs g]
      have hb : body (45 :: Lib.decDigits n.natAbs) = Lib.decDigits n.natAbs := by simp [body]
      rw [hb]
      refine ⟨(dec_canon _).1, hlen _ (by omega), fun _ e => ?_⟩
      have e0 : Lib.decDigits 0 = [48] := by rw [Lib.decDigits, dif_pos (by omega)]; rfl
      have := dec_inj (e.trans e0.symm)
      omega
    · rw [itoa_pos (by omega)]
      have hb : body (Lib.decDigits n.natAbs) = Lib.decDigits n.natAbs := if_neg (dec_head _)
      rw [hb]
      exact ⟨(dec_canon _).1, hlen _ (by omega), fun e => absurd e (dec_head _)⟩
  exact ⟨hk, itoa_inj (num_itoa hk)⟩
theorem numV_bd {l : List UInt8} : -1000000000000000000 < numV l ∧ numV l < 1000000000000000000 := by
  unfold numV
  split
  · rename_i h
    obtain ⟨h1, h2, _⟩ := of_decide_eq_true h
    have h3 := valD_lt _ h1.digs
    have h4 : 10 ^ (body l).length ≤ 10 ^ 18 := Nat.pow_le_pow_right (by omega) h2
    split <;> omega
  · omega
theorem num_i64 (l : List UInt8) : I64 (numV l) := by
  have := numV_bd (l := l)
  simp only [I64, Lit.wf, IntKind.min, IntKind.max, IntKind.signed, IntKind.bits]; simp; omega

theorem decFrom_digs : ∀ (r : List UInt8) (acc : Nat), (∀ b ∈ r, dig b) → Lib.decFrom acc r = some (valD acc r)
  | [], acc, _ => rfl
  | b :: r, acc, h => by
    have hb := h b (by simp)
    unfold dig at hb
    simp only [Lib.decFrom, Lib.digitVal, if_pos hb, valD_cons]
    exact decFrom_digs r _ fun c hc => h c (by simp [hc])
/-- What the library's parser gives at such a text. -/
theorem parse_num {l : List UInt8} (h : numOk l = true) : Lib.parseIntB 64 l = .ok (numV l) := by
  obtain ⟨h1, h2, h3⟩ := of_decide_eq_true h
  have hne := h1.ne
  have hn : Lib.decNat (body l) = some (valD 0 (body l)) := by
    unfold Lib.decNat
    rw [if_neg (by simpa [List.isEmpty_iff] using hne)]
    exact decFrom_digs _ 0 h1.digs
  rw [Lib.parseIntB_64]
  unfold numV
  rw [if_pos h]
  by_cases g : l.head? = some 45
  · have hb : body l = l.drop 1 := if_pos g
    rw [if_pos g]
    have hs := Lib.signed_short (l := body l) h2
    rw [hn] at hs
    rw [head_cons g, Lib.atoiAll_minus, ← hb, hs]
    rfl
  · have hb : body l = l := if_neg g
    rw [if_neg g]
    rw [hb] at hn h1 h2 hne ⊢
    have hs := Lib.signless_short (l := l) h2
    rw [hn] at hs
    obtain ⟨b, r, rfl⟩ : ∃ b r, l = b :: r := by
      cases l with
      | nil => exact absurd rfl hne
      | cons b r => exact ⟨b, r, rfl⟩
    have hd := h1.digs b (by simp)
    unfold dig at hd
    rw [Lib.atoiAll_plain b r (by omega) (by omega), hs]
    rfl

end Go.Proofs.YtgdfecnpkjnhnaaGreatDoor
/- A text cut at each of a byte. No program in sight. -/
set_option linter.unusedSimpArgs false
set_option linter.unnecessarySimpa false
set_option linter.unusedVariables false
set_option maxRecDepth 100000
namespace Go.Proofs.YtgdfecnpkjnhnaaGreatDoor
open Go.RowKit

def consH (b : UInt8) : List (List UInt8) → List (List UInt8)
  | [] => [[b]]
  | p :: ps => (b :: p) :: ps
/-- The pieces between the bytes c. -/
def splitC (c : UInt8) : List UInt8 → List (List UInt8)
  | [] => [[]]
  | b :: r => if b = c then [] :: splitC c r else consH b (splitC c r)
def free (c : UInt8) (p : List UInt8) : Prop := ∀ b ∈ p, b ≠ c
theorem splitC_ne (c : UInt8) (l : List UInt8) : splitC c l ≠ [] := by
  cases l with
  | nil => simp [splitC]
  | cons b r =>
    simp only [splitC]
    split
    · simp
    · cases splitC c r <;> simp [consH]
theorem split_none {c : UInt8} {p : List UInt8} (h : free c p) : splitC c p = [p] := by
  induction p with
  | nil => rfl
  | cons b r ih =>
    simp only [splitC]
    rw [if_neg (h b (by simp)), ih fun x hx => h x (by simp [hx])]; rfl
theorem split_hit {c : UInt8} {p r : List UInt8} (h : free c p) : splitC c (p ++ c :: r) = p :: splitC c r := by
  induction p with
  | nil => simp [splitC]
  | cons b q ih =>
    simp only [List.cons_append, splitC]
    rw [if_neg (h b (by simp)), ih fun x hx => h x (by simp [hx])]; rfl
/-- One more piece, behind a place from which no c stood. -/
theorem split_at {c : UInt8} {l : List UInt8} {f i : Nat} (hi : i < l.length) (hf : f ≤ i) (hc : l[i] = c) (hn : free c ((l.take i).drop f)) : splitC c (l.drop f) = (l.take i).drop f :: splitC c (l.drop (i + 1)) := by
  have e : l.drop f = (l.take i).drop f ++ c :: l.drop (i + 1) := by
    have h1 : l = l.take i ++ l.drop i := (List.take_append_drop i l).symm
    have h2 : l.drop i = c :: l.drop (i + 1) := by rw [List.drop_eq_getElem_cons hi, hc]
    conv => lhs; rw [h1]
    rw [List.drop_append_of_le_length (by rw [List.length_take]; omega), h2]
  rw [e, split_hit hn]
theorem splitC_free {c : UInt8} : ∀ (l : List UInt8), ∀ p ∈ splitC c l, free c p
  | [], p, hp => by simp only [splitC, List.mem_singleton] at hp; subst hp; intro b hb; cases hb
  | b :: r, p, hp => by
    have ih := splitC_free (c := c) r
    simp only [splitC] at hp
    split at hp
    · rcases List.mem_cons.1 hp with rfl | hp
      · intro x hx; cases hx
      · exact ih p hp
    · rename_i hb
      cases hs : splitC c r with
      | nil => exact absurd hs (splitC_ne c r)
      | cons q qs =>
        rw [hs] at hp ih
        simp only [consH] at hp
        rcases List.mem_cons.1 hp with rfl | hp
        · intro x hx
          rcases List.mem_cons.1 hx with rfl | hx
          · exact hb
          · exact ih q (by simp) x hx
        · exact ih p (by simp [hp])
theorem join_split (c : UInt8) : ∀ (l : List UInt8), Lib.join (splitC c l) [c] = l
  | [] => by simp [splitC, Lib.join_one]
  | b :: r => by
    have ih := join_split c r
    simp only [splitC]
    cases hs : splitC c r with
    | nil => exact absurd hs (splitC_ne c r)
    | cons q qs =>
      rw [hs] at ih
      split
      · rename_i hb
        subst hb
        rw [Lib.join_cons] at ih ⊢
        simp [Lib.joinTail] at ih ⊢
        exact ih
      · simp only [consH]
        rw [Lib.join_cons] at ih ⊢
        rw [List.cons_append, ih]
theorem split_join {c : UInt8} : ∀ (ps : List (List UInt8)), ps ≠ [] → (∀ p ∈ ps, free c p) → splitC c (Lib.join ps [c]) = ps
  | [], h, _ => absurd rfl h
  | [p], _, h => by rw [Lib.join_one]; exact split_none (h p (by simp))
  | p :: q :: r, _, h => by
    have ih := split_join (q :: r) (by simp) fun x hx => h x (by simp [hx])
    have e : Lib.join (p :: q :: r) [c] = p ++ c :: Lib.join (q :: r) [c] := by
      rw [Lib.join_cons, Lib.join_cons]
      simp [Lib.joinTail]
    rw [e, split_hit (h p (by simp)), ih]
theorem splitC_length (c : UInt8) : ∀ (l : List UInt8), (splitC c l).length = l.count c + 1
  | [] => rfl
  | b :: r => by
    have ih := splitC_length c r
    simp only [splitC]
    split
    · rename_i h
      subst h
      rw [List.length_cons, ih, List.count_cons_self]
    · rename_i h
      rw [List.count_cons_of_ne (by simpa using h)]
      cases hs : splitC c r with
      | nil => exact absurd hs (splitC_ne c r)
      | cons q qs => rw [hs] at ih; simpa [consH] using ih
theorem splitC_len_le (c : UInt8) (l : List UInt8) : (splitC c l).length ≤ l.length + 1 := by
  rw [splitC_length]; have := List.count_le_length (a := c) (l := l); omega
theorem piece_len {c : UInt8} : ∀ (l : List UInt8), ∀ p ∈ splitC c l, p.length ≤ l.length
  | [], p, hp => by simp only [splitC, List.mem_singleton] at hp; subst hp; simp
  | b :: r, p, hp => by
    have ih := piece_len (c := c) r
    simp only [splitC] at hp
    split at hp
    · rcases List.mem_cons.1 hp with rfl | hp
      · simp
      · have := ih p hp; simp; omega
    · cases hs : splitC c r with
      | nil => exact absurd hs (splitC_ne c r)
      | cons q qs =>
        rw [hs] at hp ih
        simp only [consH] at hp
        rcases List.mem_cons.1 hp with rfl | hp
        · have := ih q (by simp); simp; omega
        · have := ih p (by simp [hp]); simp; omega

theorem splitK_eq (c : UInt8) : ∀ (n : Nat) (s : List UInt8), s.length ≤ n → Lib.splitK [c] 0 (Lib.count s [c]) s = splitC c s := by
  intro n
  induction n with
  | zero =>
    intro s hs
    have : s = [] := List.eq_nil_of_length_eq_zero (by omega)
    subst this
    have hm : Lib.index [] [c] = -1 := by rw [Lib.index_one]; rfl
    rw [Lib.count_miss hm]; rfl
  | succ n ih =>
    intro s hs
    have h1 := Lib.index_one s c
    rcases Lib.index_spec s [c] with ⟨hm, _⟩ | ⟨i, hi, hil, _, _⟩
    · rw [Lib.count_miss hm]
      have hn := Lib.indexByte_none (l := s) (c := c) (by rw [← h1]; exact hm)
      have hf : free c s := fun b hb e => by
        obtain ⟨k, hk, rfl⟩ := List.getElem_of_mem hb
        exact hn k (by rw [List.getElem?_eq_getElem hk, e])
      rw [split_none hf]; rfl
    · obtain ⟨hat, hbe⟩ := Lib.indexByte_some (l := s) (c := c) (o := i) (by rw [← h1]; exact hi)
      have hlt : i < s.length := (List.getElem?_eq_some_iff.1 hat).1
      have hc : s[i] = c := (List.getElem?_eq_some_iff.1 hat).2
      rw [Lib.count_hit (by simp) hi, Nat.add_comm 1]
      have hd := ih (s.drop (i + 1)) (by rw [List.length_drop]; omega)
      have hsp := split_at (c := c) (l := s) (f := 0) (i := i) hlt (Nat.zero_le _) hc (fun b hb e => by
        rw [List.drop_zero] at hb
        obtain ⟨k, hk, rfl⟩ := List.getElem_of_mem hb
        rw [List.length_take] at hk
        have hk2 : k < i := by omega
        exact hbe k hk2 (by rw [List.getElem?_eq_getElem (by omega)]; simpa [List.getElem_take] using e))
      rw [List.drop_zero, List.drop_zero] at hsp
      rw [hsp]
      have hne : ¬ (Lib.index s [c] == -1) = true := by rw [hi]; simp
      simp only [Lib.splitK]
      rw [if_neg hne, hi]
      simp only [Int.toNat_natCast, Nat.add_zero, List.length_cons, List.length_nil, Nat.zero_add]
      rw [hd]
/-- What the library's Split gives, at a separator of one byte. -/
theorem splitB_eq (c : UInt8) (s : ByteArray) : Lib.splitB ⟨#[c]⟩ 0 (Lib.countB s ⟨#[c]⟩) s = (splitC c s.data.toList).map bytesB := by
  have h := Lib.splitB_data ⟨#[c]⟩ 0 (Lib.countB s ⟨#[c]⟩) s
  have e : Lib.splitK [c] 0 (Lib.count s.data.toList [c]) s.data.toList = splitC c s.data.toList := splitK_eq c _ _ (Nat.le_refl _)
  have h2 : (Lib.splitB ⟨#[c]⟩ 0 (Lib.countB s ⟨#[c]⟩) s).map (·.data.toList) = splitC c s.data.toList := h.trans e
  rw [← h2, List.map_map]
  have : (bytesB ∘ fun x : ByteArray => x.data.toList) = id := by funext x; exact bytesB_of x
  rw [this, List.map_id]
theorem countB_eq (c : UInt8) (s : ByteArray) : Lib.countB s ⟨#[c]⟩ + 1 = (splitC c s.data.toList).length := by
  rw [splitC_length]
  have : Lib.count s.data.toList [c] = s.data.toList.count c := Lib.count_one c _
  show Lib.count s.data.toList [c] + 1 = _
  rw [this]

end Go.Proofs.YtgdfecnpkjnhnaaGreatDoor
/- Which texts stand for a list of numbers, and for which. No program in sight. -/
set_option linter.unusedSimpArgs false
set_option linter.unnecessarySimpa false
set_option linter.unusedVariables false
set_option maxRecDepth 100000
namespace Go.Proofs.YtgdfecnpkjnhnaaGreatDoor
open Go.RowKit

def pieces (s : ByteArray) : List (List UInt8) := splitC 44 s.data.toList
def numAt (p : List UInt8) : Prop := numOk p = true ∧ isVal (numV p)
instance (p : List UInt8) : Decidable (numAt p) := by unfold numAt; infer_instance
def numsB (ps : List (List UInt8)) : Bool := decide (ps.length ≤ 64 ∧ ∀ p ∈ ps, numAt p)
def rlB (s : ByteArray) : Bool := if s = bytesB [45] then true else numsB (pieces s)
def rlV (s : ByteArray) : List Int := if s = bytesB [45] then [] else if numsB (pieces s) then (pieces s).map numV else []
theorem rl_dash {s : ByteArray} (h : s = bytesB [45]) : rlB s = true ∧ rlV s = [] := by unfold rlB rlV; rw [if_pos h, if_pos h]; exact ⟨rfl, rfl⟩
theorem rl_yes {s : ByteArray} (h : ¬ s = bytesB [45]) (hn : numsB (pieces s) = true) : rlB s = true ∧ rlV s = (pieces s).map numV := by unfold rlB rlV; rw [if_neg h, if_neg h, hn]; exact ⟨rfl, rfl⟩
theorem rl_no {s : ByteArray} (h : ¬ s = bytesB [45]) (hn : numsB (pieces s) = false) : rlB s = false ∧ rlV s = [] := by unfold rlB rlV; rw [if_neg h, if_neg h, hn]; exact ⟨rfl, rfl⟩
theorem rlV_len (s : ByteArray) : (rlV s).length ≤ 64 := by
  unfold rlV
  split
  · simp
  · split
    · rename_i h
      have := (of_decide_eq_true h).1
      simpa using this
    · simp
theorem rlV_val (s : ByteArray) : ∀ n ∈ rlV s, isVal n := by
  unfold rlV
  split
  · intro n hn; cases hn
  · split
    · rename_i h
      intro n hn
      obtain ⟨p, hp, rfl⟩ := List.mem_map.1 hn
      exact ((of_decide_eq_true h).2 p hp).2
    · intro n hn; cases hn
theorem itoa_free (n : Int) : free 44 (Lib.itoa n) := by
  have hd : ∀ u : Nat, free 44 (Lib.decDigits u) := fun u b hb e => by
    have := (dec_canon u).1.digs b hb
    rw [e] at this
    unfold dig at this
    revert this; decide
  by_cases h : n < 0
  · rw [itoa_negs h]
    intro b hb e
    rcases List.mem_cons.1 hb with hb | hb
    · rw [hb] at e; revert e; decide
    · exact hd _ b hb e
  · rw [itoa_pos (by omega)]; exact hd _
theorem numV_nil : numV [] = 0 := by
  have : numOk [] = false := by
    unfold numOk
    exact decide_eq_false fun h => h.1.ne rfl
  unfold numV
  rw [this]; rfl
/-- The program's way: it writes the numbers again, and compares. -/
theorem list_again {s : ByteArray} : listT ((pieces s).map numV) = s ↔ numsB (pieces s) = true := by
  have hne : pieces s ≠ [] := splitC_ne _ _
  constructor
  · intro h
    by_cases hl : ((pieces s).map numV).length ≤ 64 ∧ valsB ((pieces s).map numV) = true
    · rw [listT_yes hl.1 hl.2] at h
      unfold listU at h
      rw [if_neg (by simpa using hne)] at h
      have e := congrArg (fun b : ByteArray => b.data.toList) h
      simp only [bytesB_list] at e
      have e2 : pieces s = ((pieces s).map numV).map Lib.itoa := by
        have := split_join (c := 44) (((pieces s).map numV).map Lib.itoa) (by simpa using hne) (fun p hp => by
          obtain ⟨n, _, rfl⟩ := List.mem_map.1 hp
          exact itoa_free n)
        unfold commaT at e
        rw [e] at this
        exact this
      unfold numsB
      refine decide_eq_true ⟨by simpa using hl.1, fun p hp => ?_⟩
      obtain ⟨i, hi, rfl⟩ := List.getElem_of_mem hp
      have e3 : (pieces s)[i] = Lib.itoa (numV (pieces s)[i]) := by
        have h2 := congrArg (fun l => l[i]?) e2
        simp only [List.getElem?_map, List.getElem?_eq_getElem hi, Option.map_some, Option.some.injEq] at h2
        exact h2
      have hb := numV_bd (l := (pieces s)[i])
      refine ⟨?_, ?_⟩
      · rw [e3]; exact (itoa_num hb.1 hb.2).1
      · have := of_decide_eq_true hl.2
        exact this _ (List.mem_map.2 ⟨_, List.getElem_mem hi, rfl⟩)
    · exfalso
      have h0 : listT ((pieces s).map numV) = bytesB [] := if_neg hl
      rw [h0] at h
      have e : s.data.toList = [] := by rw [← h, bytesB_list]
      apply hl
      unfold pieces
      rw [e]
      have e1 : splitC 44 [] = [[]] := rfl
      rw [e1]
      simp only [List.map_cons, List.map_nil, numV_nil]
      refine ⟨by simp, decide_eq_true fun n hn => ?_⟩
      rw [List.mem_singleton.1 hn]; unfold isVal; omega
  · intro h
    obtain ⟨h1, h2⟩ := of_decide_eq_true h
    rw [listT_yes (by simpa using h1) (decide_eq_true fun n hn => by
      obtain ⟨p, hp, rfl⟩ := List.mem_map.1 hn
      exact (h2 p hp).2)]
    unfold listU
    rw [if_neg (by simpa using hne)]
    unfold commaT
    rw [List.map_map]
    have e : (pieces s).map (Lib.itoa ∘ numV) = pieces s := by
      conv => rhs; rw [← List.map_id (pieces s)]
      exact List.map_congr_left fun p hp => num_itoa (h2 p hp).1
    rw [e]
    unfold pieces
    rw [join_split, bytesB_of]

end Go.Proofs.YtgdfecnpkjnhnaaGreatDoor
/- Which texts stand for a tune, and for which. No program in sight. -/
set_option linter.unusedSimpArgs false
set_option linter.unnecessarySimpa false
set_option linter.unusedVariables false
set_option maxRecDepth 100000
namespace Go.Proofs.YtgdfecnpkjnhnaaGreatDoor
open Go.RowKit

theorem cut_hit {c : UInt8} {a r : List UInt8} (h : free c a) : Lib.cut (a ++ c :: r) [c] = (a, r, true) := by
  have h1 := Lib.index_one (a ++ c :: r) c
  have hi : Lib.index (a ++ c :: r) [c] = (a.length : Int) := by
    rcases Lib.index_spec (a ++ c :: r) [c] with ⟨hm, _⟩ | ⟨i, hi, hil, _, _⟩
    · exfalso
      have hn := Lib.indexByte_none (l := a ++ c :: r) (c := c) (by rw [← h1]; exact hm)
      exact hn a.length (by simp)
    · obtain ⟨hat, hbe⟩ := Lib.indexByte_some (l := a ++ c :: r) (c := c) (o := i) (by rw [← h1]; exact hi)
      rw [hi]
      rcases Nat.lt_trichotomy i a.length with g | g | g
      · exfalso
        rw [List.getElem?_append_left g, List.getElem?_eq_getElem g] at hat
        exact h _ (List.getElem_mem g) (Option.some.inj hat)
      · rw [g]
      · exact absurd (by simp) (hbe a.length g)
  unfold Lib.cut
  rw [if_pos (by rw [hi]; omega), hi]
  simp
theorem split_two {c : UInt8} {p a b : List UInt8} (h : splitC c p = [a, b]) : p = a ++ c :: b ∧ free c a ∧ free c b := by
  have hj := join_split c p
  rw [h] at hj
  have hf := splitC_free (c := c) p
  rw [h] at hf
  refine ⟨?_, hf a (by simp), hf b (by simp)⟩
  rw [← hj, Lib.join_cons]
  simp [Lib.joinTail]
theorem split_mk {c : UInt8} {a b : List UInt8} (ha : free c a) (hb : free c b) : splitC c (a ++ c :: b) = [a, b] := by rw [split_hit ha, split_none hb]
/-- Bytes of a decimal text. -/
theorem itoa_freeC {c : UInt8} (h1 : ¬ dig c) (h2 : c ≠ 45) (n : Int) : free c (Lib.itoa n) := by
  have hd : ∀ u : Nat, free c (Lib.decDigits u) := fun u b hb e => by
    have := (dec_canon u).1.digs b hb
    rw [e] at this
    exact h1 this
  by_cases h : n < 0
  · rw [itoa_negs h]
    intro b hb e
    rcases List.mem_cons.1 hb with hb | hb
    · rw [hb] at e; exact h2 e.symm
    · exact hd _ b hb e
  · rw [itoa_pos (by omega)]; exact hd _
def letter (b : UInt8) : Prop := 97 ≤ b.toNat
instance (b : UInt8) : Decidable (letter b) := by unfold letter; infer_instance
theorem name_letters {m : Nat} (h : m < 12) : ∀ b ∈ (nameAt m).data.toList, letter b := by
  rcases lt12 h with rfl | rfl | rfl | rfl | rfl | rfl | rfl | rfl | rfl | rfl | rfl | rfl <;> decide
theorem name_inj {m k : Nat} (h : m < 12) (h2 : k < 12) (e : (nameAt m).data.toList = (nameAt k).data.toList) : m = k := by
  revert e
  rcases lt12 h with rfl | rfl | rfl | rfl | rfl | rfl | rfl | rfl | rfl | rfl | rfl | rfl <;> rcases lt12 h2 with rfl | rfl | rfl | rfl | rfl | rfl | rfl | rfl | rfl | rfl | rfl | rfl <;> decide
theorem itoa_low (n : Int) : ∀ b ∈ Lib.itoa n, ¬ letter b := by
  have hd : ∀ u : Nat, ∀ b ∈ Lib.decDigits u, ¬ letter b := fun u b hb e => by
    have := (dec_canon u).1.digs b hb
    unfold dig at this; unfold letter at e; omega
  by_cases h : n < 0
  · rw [itoa_negs h]
    intro b hb e
    rcases List.mem_cons.1 hb with hb | hb
    · rw [hb] at e; revert e; decide
    · exact hd _ b hb e
  · rw [itoa_pos (by omega)]; exact hd _
theorem app_split : ∀ (a b x y : List UInt8), (∀ c ∈ a, letter c) → (∀ c ∈ b, letter c) → (∀ c ∈ x, ¬ letter c) → (∀ c ∈ y, ¬ letter c) → a ++ x = b ++ y → a = b ∧ x = y
  | [], [], x, y, _, _, _, _, h => ⟨rfl, h⟩
  | c :: a, d :: b, x, y, ha, hb, hx, hy, h => by
    simp only [List.cons_append, List.cons.injEq] at h
    obtain ⟨h1, h2⟩ := app_split a b x y (fun c hc => ha c (by simp [hc])) (fun c hc => hb c (by simp [hc])) hx hy h.2
    exact ⟨by rw [h.1, h1], h2⟩
  | c :: a, [], x, y, ha, _, _, hy, h => by
    simp only [List.nil_append] at h
    exact absurd (ha c (by simp)) (hy c (by rw [← h]; simp))
  | [], d :: b, x, y, _, hb, hx, _, h => by
    simp only [List.nil_append] at h
    exact absurd (hb d (by simp)) (hx d (by rw [h]; simp))
theorem note_inj {n m : Nat} (h : noteL n = noteL m) : n = m := by
  unfold noteL at h
  obtain ⟨h1, h2⟩ := app_split _ _ _ _ (name_letters (m := n % 12) (by omega)) (name_letters (m := m % 12) (by omega)) (itoa_low _) (itoa_low _) h
  have e1 := name_inj (by omega) (by omega) h1
  have e2 := itoa_inj h2
  omega
theorem note_free {c : UInt8} (h1 : ¬ dig c) (h2 : c ≠ 45) (h3 : ¬ letter c) (n : Nat) : free c (noteL n) := by
  unfold noteL
  intro b hb e
  rcases List.mem_append.1 hb with hb | hb
  · exact h3 (by rw [← e]; exact name_letters (by omega) b hb)
  · exact itoa_freeC h1 h2 _ b hb e
/-- The note that a text names. -/
def nnB (a : List UInt8) : Prop := ∃ n : Nat, n ≤ 127 ∧ noteL n = a
noncomputable instance (a : List UInt8) : Decidable (nnB a) := Classical.propDecidable _
noncomputable def nnV (a : List UInt8) : Int := if h : nnB a then (h.choose : Int) else 0
theorem nn_yes {n : Nat} (h : n ≤ 127) : nnB (noteL n) ∧ nnV (noteL n) = n := by
  have hb : nnB (noteL n) := ⟨n, h, rfl⟩
  refine ⟨hb, ?_⟩
  unfold nnV
  rw [dif_pos hb]
  have := note_inj hb.choose_spec.2
  rw [this]
theorem nn_no {a : List UInt8} (h : ¬ nnB a) : nnV a = 0 := dif_neg h
theorem nn_text {a : List UInt8} (h : nnB a) : noteL (nnV a).toNat = a := by
  obtain ⟨n, hn, rfl⟩ := h
  rw [(nn_yes hn).2]; rfl
theorem nnV_bd (a : List UInt8) : 0 ≤ nnV a ∧ nnV a ≤ 127 := by
  by_cases h : nnB a
  · obtain ⟨n, hn, rfl⟩ := h
    rw [(nn_yes hn).2]; omega
  · rw [nn_no h]; omega
/-- A piece is a tone's text. -/
def toneB (p : List UInt8) : Prop := ∃ a b c d, splitC 64 p = [a, b] ∧ splitC 43 b = [c, d] ∧ nnB a ∧ numOk c = true ∧ numOk d = true
/-- The tone, as the program cuts it out of a piece. -/
noncomputable def toneV (p : List UInt8) : Ton := ⟨nnV (Lib.cut p [64]).1, numV (Lib.cut (Lib.cut p [64]).2.1 [43]).1, numV (Lib.cut (Lib.cut p [64]).2.1 [43]).2.1⟩
theorem toneV_of {p a b c d : List UInt8} (h1 : splitC 64 p = [a, b]) (h2 : splitC 43 b = [c, d]) : toneV p = ⟨nnV a, numV c, numV d⟩ := by
  obtain ⟨e1, f1, _⟩ := split_two h1
  obtain ⟨e2, f2, _⟩ := split_two h2
  unfold toneV
  rw [e1, cut_hit f1]
  simp only
  rw [e2, cut_hit f2]
theorem tone_text {p : List UInt8} (h : toneB p) : tonL (toneV p) = p := by
  obtain ⟨a, b, c, d, h1, h2, h3, h4, h5⟩ := h
  rw [toneV_of h1 h2]
  obtain ⟨e1, _, _⟩ := split_two h1
  obtain ⟨e2, _, _⟩ := split_two h2
  unfold tonL
  simp only
  rw [nn_text h3, num_itoa h4, num_itoa h5, e1, e2]
  simp
theorem tone_back {t : Ton} (h : TonOk t) : toneB (tonL t) ∧ toneV (tonL t) = t := by
  have h1 := h.note; have h2 := h.start; have h3 := h.len
  unfold noteOk at h1
  obtain ⟨n, hn⟩ : ∃ n : Nat, t.note = n := ⟨t.note.toNat, by omega⟩
  have hn' : t.note.toNat = n := by omega
  obtain ⟨o1, v1⟩ := itoa_num (n := t.start) (by omega) (by omega)
  obtain ⟨o2, v2⟩ := itoa_num (n := t.len) (by omega) (by omega)
  have e : tonL t = noteL n ++ 64 :: (Lib.itoa t.start ++ 43 :: Lib.itoa t.len) := by unfold tonL; rw [hn']; simp
  have f64 : free 64 (Lib.itoa t.start ++ 43 :: Lib.itoa t.len) := fun b hb hc => by
    rcases List.mem_append.1 hb with hb | hb
    · exact itoa_freeC (by decide) (by decide) _ b hb hc
    · rcases List.mem_cons.1 hb with hb | hb
      · rw [hb] at hc; revert hc; decide
      · exact itoa_freeC (by decide) (by decide) _ b hb hc
  have s1 : splitC 64 (tonL t) = [noteL n, Lib.itoa t.start ++ 43 :: Lib.itoa t.len] := by rw [e]; exact split_mk (note_free (by decide) (by decide) (by decide) _) f64
  have s2 : splitC 43 (Lib.itoa t.start ++ 43 :: Lib.itoa t.len) = [Lib.itoa t.start, Lib.itoa t.len] := split_mk (itoa_freeC (by decide) (by decide) _) (itoa_freeC (by decide) (by decide) _)
  obtain ⟨b1, b2⟩ := nn_yes (n := n) (by omega)
  refine ⟨⟨_, _, _, _, s1, s2, b1, o1, o2⟩, ?_⟩
  rw [toneV_of s1 s2, b2, v1, v2, ← hn]
theorem ton_free (t : Ton) : free 32 (tonL t) := by
  unfold tonL
  intro b hb e
  simp only [List.mem_append, List.mem_singleton] at hb
  rcases hb with (((hb | hb) | hb) | hb) | hb
  · exact note_free (by decide) (by decide) (by decide) _ b hb e
  · rw [hb] at e; revert e; decide
  · exact itoa_freeC (by decide) (by decide) _ b hb e
  · rw [hb] at e; revert e; decide
  · exact itoa_freeC (by decide) (by decide) _ b hb e

def words (s : ByteArray) : List (List UInt8) := splitC 32 s.data.toList
/-- The tune that the program cuts out of a text. -/
noncomputable def rtT (s : ByteArray) : TunD := ⟨bytesB ((words s).headD []), (words s).tail.map toneV⟩
def rtOk (s : ByteArray) : Prop := (∀ p ∈ (words s).tail, toneB p) ∧ TunOk (rtT s)
noncomputable instance (s : ByteArray) : Decidable (rtOk s) := Classical.propDecidable _
noncomputable def rtB (s : ByteArray) : Bool := decide (rtOk s)
noncomputable def rtV (s : ByteArray) : TunD := if rtB s then rtT s else ⟨.empty, []⟩
theorem words_cons (s : ByteArray) : words s = (words s).headD [] :: (words s).tail := by
  have := splitC_ne 32 s.data.toList
  unfold words
  cases h : splitC 32 s.data.toList with
  | nil => exact absurd h this
  | cons a r => rfl
theorem rt_yes {s : ByteArray} (h : rtOk s) : rtB s = true ∧ rtV s = rtT s := by
  have : rtB s = true := decide_eq_true h
  exact ⟨this, if_pos this⟩
theorem rt_no {s : ByteArray} (h : ¬ rtOk s) : rtB s = false ∧ rtV s = ⟨.empty, []⟩ := by
  have : rtB s = false := decide_eq_false h
  exact ⟨this, if_neg (by rw [this]; simp)⟩
/-- The program's way: it writes the tune again, and compares. -/
theorem rt_again {s : ByteArray} : rtOk s ↔ (validTunB (rtT s) = true ∧ tunT (rtT s) = s) := by
  have hw := words_cons s
  constructor
  · rintro ⟨h1, h2⟩
    have hv : validTunB (rtT s) = true := by simpa [validTunB] using h2
    refine ⟨hv, ?_⟩
    rw [tunT_yes hv, ← tunL_join]
    have e : (rtT s).tones.map tonL = (words s).tail := by
      show ((words s).tail.map toneV).map tonL = _
      rw [List.map_map]
      conv => rhs; rw [← List.map_id (words s).tail]
      exact List.map_congr_left fun p hp => tone_text (h1 p hp)
    have e2 : (rtT s).name.data.toList = (words s).headD [] := bytesB_list _
    rw [e, e2, ← hw]
    unfold words
    rw [join_split, bytesB_of]
  · rintro ⟨hv, ht⟩
    have h2 : TunOk (rtT s) := by simpa [validTunB] using hv
    refine ⟨?_, h2⟩
    rw [tunT_yes hv, ← tunL_join] at ht
    have e2 : (rtT s).name.data.toList = (words s).headD [] := bytesB_list _
    have hl : s.data.toList = Lib.join ((words s).headD [] :: (rtT s).tones.map tonL) [32] := by
      conv => lhs; rw [← ht]
      rw [bytesB_list, e2]
    have hs : words s = (words s).headD [] :: (rtT s).tones.map tonL := by
      conv => lhs; unfold words; rw [hl]
      refine split_join _ (by simp) fun p hp => ?_
      rcases List.mem_cons.1 hp with rfl | hp
      · exact splitC_free s.data.toList _ (by have : (words s).headD [] ∈ words s := by rw [hw]; simp
                                              exact this)
      · obtain ⟨t, _, rfl⟩ := List.mem_map.1 hp
        exact ton_free t
    have ht2 : (words s).tail = (rtT s).tones.map tonL := by
      have := congrArg List.tail hs
      simpa using this
    intro p hp
    rw [ht2] at hp
    obtain ⟨t, ht3, rfl⟩ := List.mem_map.1 hp
    obtain ⟨i, hi, rfl⟩ := List.getElem_of_mem ht3
    exact (tone_back (h2.tones i hi hi).1).1

end Go.Proofs.YtgdfecnpkjnhnaaGreatDoor
/- A right tune is read back from its text. Plain. -/
set_option linter.unusedSimpArgs false
set_option linter.unnecessarySimpa false
set_option linter.unusedVariables false
set_option maxRecDepth 100000
namespace Go.Proofs.YtgdfecnpkjnhnaaGreatDoor
open Go.RowKit

theorem name_free {s : ByteArray} (h : NameOk s) : free 32 s.data.toList := by
  have hk := ((NameOk.iff' s).1 h).2.2.2
  intro b hb e
  obtain ⟨i, hi, rfl⟩ := List.getElem_of_mem hb
  have hs : i < s.size := by have := bsize s; omega
  have hc := hk i hs
  have hb2 : byteAt s i = 32 := by
    unfold byteAt
    rw [List.getD_eq_getElem?_getD, List.getElem?_eq_getElem hi, Option.getD_some, e]; rfl
  rw [hb2] at hc
  unfold smallC digitC at hc
  omega
theorem tune_read {t : TunD} (h : validTunB t = true) : rtB (tunT t) = true ∧ rtV (tunT t) = t := by
  have ok : TunOk t := by simpa [validTunB] using h
  have hw : words (tunT t) = t.name.data.toList :: t.tones.map tonL := by
    unfold words
    rw [tunT_yes h, ← tunL_join, bytesB_list]
    refine split_join _ (by simp) fun p hp => ?_
    rcases List.mem_cons.1 hp with rfl | hp
    · exact name_free ok.name
    · obtain ⟨x, _, rfl⟩ := List.mem_map.1 hp
      exact ton_free x
  have hT : rtT (tunT t) = t := by
    have e : (t.tones.map tonL).map toneV = t.tones := by
      rw [List.map_map]
      conv => rhs; rw [← List.map_id t.tones]
      refine List.map_congr_left fun x hx => ?_
      obtain ⟨i, hi, rfl⟩ := List.getElem_of_mem hx
      exact (tone_back (ok.tones i hi hi).1).2
    unfold rtT
    rw [hw]
    simp only [List.headD_cons, List.tail_cons]
    rw [e, bytesB_of]
  have hr : rtOk (tunT t) := rt_again.2 ⟨by rw [hT]; exact h, by rw [hT]⟩
  obtain ⟨q1, q2⟩ := rt_yes hr
  exact ⟨q1, by rw [q2, hT]⟩

end Go.Proofs.YtgdfecnpkjnhnaaGreatDoor
/- The reference's decimal text of a number. Contract of l01Dec. -/
set_option linter.unusedSimpArgs false
set_option linter.unnecessarySimpa false
set_option linter.unusedVariables false
set_option maxRecDepth 100000
namespace Go.Proofs.YtgdfecnpkjnhnaaGreatDoor
open Go.RowKit

theorem info_u8 : (Tryz.prog.info? 5).map (fun i => (i.zero, i.size, i.bytes)) = some (some (.int .u8 0), 1, 1) := by kernel_rfl

end Go.Proofs.YtgdfecnpkjnhnaaGreatDoor
