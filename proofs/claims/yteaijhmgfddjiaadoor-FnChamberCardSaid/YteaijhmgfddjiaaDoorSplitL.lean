/- A text cut at each of a byte. No program in sight. -/
import Derived.Test.YteaijhmgfddjiaaDoorListL
import Derived.Lib.SplitLaws
import Derived.Lib.Split
set_option linter.unusedSimpArgs false
set_option linter.unnecessarySimpa false
set_option linter.unusedVariables false
set_option maxRecDepth 100000
namespace Go.Proofs.YteaijhmgfddjiaaDoor
open Go.RowKit

def consH (b : UInt8) : List (List UInt8) → List (List UInt8)
  | [] => [[b]]
  | p :: ps => (b :: p) :: ps
/-- The pieces between the bytes c. -/
def splitC (c : UInt8) : List UInt8 → List (List UInt8)
  | [] => [[]]
  | b :: r => if b = c then [] :: splitC c r else consH b (splitC c r)
def free (c : UInt8) (p : List UInt8) : Prop := ∀ b ∈ p, b ≠ c
theorem splitC_ne (c : UInt8) (l : List UInt8) : splitC c l ≠ [] := by
  cases l with
  | nil => simp [splitC]
  | cons b r =>
    simp only [splitC]
    split
    · simp
    · cases splitC c r <;> simp [consH]
theorem split_none {c : UInt8} {p : List UInt8} (h : free c p) : splitC c p = [p] := by
  induction p with
  | nil => rfl
  | cons b r ih =>
    simp only [splitC]
    rw [if_neg (h b (by simp)), ih fun x hx => h x (by simp [hx])]; rfl
theorem split_hit {c : UInt8} {p r : List UInt8} (h : free c p) : splitC c (p ++ c :: r) = p :: splitC c r := by
  induction p with
  | nil => simp [splitC]
  | cons b q ih =>
    simp only [List.cons_append, splitC]
    rw [if_neg (h b (by simp)), ih fun x hx => h x (by simp [hx])]; rfl
/-- One more piece, behind a place from which no c stood. -/
theorem split_at {c : UInt8} {l : List UInt8} {f i : Nat} (hi : i < l.length) (hf : f ≤ i) (hc : l[i] = c) (hn : free c ((l.take i).drop f)) : splitC c (l.drop f) = (l.take i).drop f :: splitC c (l.drop (i + 1)) := by
  have e : l.drop f = (l.take i).drop f ++ c :: l.drop (i + 1) := by
    have h1 : l = l.take i ++ l.drop i := (List.take_append_drop i l).symm
    have h2 : l.drop i = c :: l.drop (i + 1) := by rw [List.drop_eq_getElem_cons hi, hc]
    conv => lhs; rw [h1]
    rw [List.drop_append_of_le_length (by rw [List.length_take]; omega), h2]
  rw [e, split_hit hn]
theorem splitC_free {c : UInt8} : ∀ (l : List UInt8), ∀ p ∈ splitC c l, free c p
  | [], p, hp => by simp only [splitC, List.mem_singleton] at hp; subst hp; intro b hb; cases hb
  | b :: r, p, hp => by
    have ih := splitC_free (c := c) r
    simp only [splitC] at hp
    split at hp
    · rcases List.mem_cons.1 hp with rfl | hp
      · intro x hx; cases hx
      · exact ih p hp
    · rename_i hb
      cases hs : splitC c r with
      | nil => exact absurd hs (splitC_ne c r)
      | cons q qs =>
        rw [hs] at hp ih
        simp only [consH] at hp
        rcases List.mem_cons.1 hp with rfl | hp
        · intro x hx
          rcases List.mem_cons.1 hx with rfl | hx
          · exact hb
          · exact ih q (by simp) x hx
        · exact ih p (by simp [hp])
theorem join_split (c : UInt8) : ∀ (l : List UInt8), Lib.join (splitC c l) [c] = l
  | [] => by simp [splitC, Lib.join_one]
  | b :: r => by
    have ih := join_split c r
    simp only [splitC]
    cases hs : splitC c r with
    | nil => exact absurd hs (splitC_ne c r)
    | cons q qs =>
      rw [hs] at ih
      split
      · rename_i hb
        subst hb
        rw [Lib.join_cons] at ih ⊢
        simp [Lib.joinTail] at ih ⊢
        exact ih
      · simp only [consH]
        rw [Lib.join_cons] at ih ⊢
        rw [List.cons_append, ih]
theorem split_join {c : UInt8} : ∀ (ps : List (List UInt8)), ps ≠ [] → (∀ p ∈ ps, free c p) → splitC c (Lib.join ps [c]) = ps
  | [], h, _ => absurd rfl h
  | [p], _, h => by rw [Lib.join_one]; exact split_none (h p (by simp))
  | p :: q :: r, _, h => by
    have ih := split_join (q :: r) (by simp) fun x hx => h x (by simp [hx])
    have e : Lib.join (p :: q :: r) [c] = p ++ c :: Lib.join (q :: r) [c] := by
      rw [Lib.join_cons, Lib.join_cons]
      simp [Lib.joinTail]
    rw [e, split_hit (h p (by simp)), ih]
theorem splitC_length (c : UInt8) : ∀ (l : List UInt8), (splitC c l).length = l.count c + 1
  | [] => rfl
  | b :: r => by
    have ih := splitC_length c r
    simp only [splitC]
    split
    · rename_i h
      subst h
      rw [List.length_cons, ih, List.count_cons_self]
    · rename_i h
      rw [List.count_cons_of_ne (by simpa using h)]
      cases hs : splitC c r with
      | nil => exact absurd hs (splitC_ne c r)
      | cons q qs => rw [hs] at ih; simpa [consH] using ih
theorem splitC_len_le (c : UInt8) (l : List UInt8) : (splitC c l).length ≤ l.length + 1 := by
  rw [splitC_length]; have := List.count_le_length (a := c) (l := l); omega
theorem piece_len {c : UInt8} : ∀ (l : List UInt8), ∀ p ∈ splitC c l, p.length ≤ l.length
  | [], p, hp => by simp only [splitC, List.mem_singleton] at hp; subst hp; simp
  | b :: r, p, hp => by
    have ih := piece_len (c := c) r
    simp only [splitC] at hp
    split at hp
    · rcases List.mem_cons.1 hp with rfl | hp
      · simp
      · have := ih p hp; simp; omega
    · cases hs : splitC c r with
      | nil => exact absurd hs (splitC_ne c r)
      | cons q qs =>
        rw [hs] at hp ih
        simp only [consH] at hp
        rcases List.mem_cons.1 hp with rfl | hp
        · have := ih q (by simp); simp; omega
        · have := ih p (by simp [hp]); simp; omega

theorem splitK_eq (c : UInt8) : ∀ (n : Nat) (s : List UInt8), s.length ≤ n → Lib.splitK [c] 0 (Lib.count s [c]) s = splitC c s := by
  intro n
  induction n with
  | zero =>
    intro s hs
    have : s = [] := List.eq_nil_of_length_eq_zero (by omega)
    subst this
    have hm : Lib.index [] [c] = -1 := by rw [Lib.index_one]; rfl
    rw [Lib.count_miss hm]; rfl
  | succ n ih =>
    intro s hs
    have h1 := Lib.index_one s c
    rcases Lib.index_spec s [c] with ⟨hm, _⟩ | ⟨i, hi, hil, _, _⟩
    · rw [Lib.count_miss hm]
      have hn := Lib.indexByte_none (l := s) (c := c) (by rw [← h1]; exact hm)
      have hf : free c s := fun b hb e => by
        obtain ⟨k, hk, rfl⟩ := List.getElem_of_mem hb
        exact hn k (by rw [List.getElem?_eq_getElem hk, e])
      rw [split_none hf]; rfl
    · obtain ⟨hat, hbe⟩ := Lib.indexByte_some (l := s) (c := c) (o := i) (by rw [← h1]; exact hi)
      have hlt : i < s.length := (List.getElem?_eq_some_iff.1 hat).1
      have hc : s[i] = c := (List.getElem?_eq_some_iff.1 hat).2
      rw [Lib.count_hit (by simp) hi, Nat.add_comm 1]
      have hd := ih (s.drop (i + 1)) (by rw [List.length_drop]; omega)
      have hsp := split_at (c := c) (l := s) (f := 0) (i := i) hlt (Nat.zero_le _) hc (fun b hb e => by
        rw [List.drop_zero] at hb
        obtain ⟨k, hk, rfl⟩ := List.getElem_of_mem hb
        rw [List.length_take] at hk
        have hk2 : k < i := by omega
        exact hbe k hk2 (by rw [List.getElem?_eq_getElem (by omega)]; simpa [List.getElem_take] using e))
      rw [List.drop_zero, List.drop_zero] at hsp
      rw [hsp]
      have hne : ¬ (Lib.index s [c] == -1) = true := by rw [hi]; simp
      simp only [Lib.splitK]
      rw [if_neg hne, hi]
      simp only [Int.toNat_natCast, Nat.add_zero, List.length_cons, List.length_nil, Nat.zero_add]
      rw [hd]
/-- What the library's Split gives, at a separator of one byte. -/
theorem splitB_eq (c : UInt8) (s : ByteArray) : Lib.splitB ⟨#[c]⟩ 0 (Lib.countB s ⟨#[c]⟩) s = (splitC c s.data.toList).map bytesB := by
  have h := Lib.splitB_data ⟨#[c]⟩ 0 (Lib.countB s ⟨#[c]⟩) s
  have e : Lib.splitK [c] 0 (Lib.count s.data.toList [c]) s.data.toList = splitC c s.data.toList := splitK_eq c _ _ (Nat.le_refl _)
  have h2 : (Lib.splitB ⟨#[c]⟩ 0 (Lib.countB s ⟨#[c]⟩) s).map (·.data.toList) = splitC c s.data.toList := h.trans e
  rw [← h2, List.map_map]
  have : (bytesB ∘ fun x : ByteArray => x.data.toList) = id := by funext x; exact bytesB_of x
  rw [this, List.map_id]
theorem countB_eq (c : UInt8) (s : ByteArray) : Lib.countB s ⟨#[c]⟩ + 1 = (splitC c s.data.toList).length := by
  rw [splitC_length]
  have : Lib.count s.data.toList [c] = s.data.toList.count c := Lib.count_one c _
  show Lib.count s.data.toList [c] + 1 = _
  rw [this]

end Go.Proofs.YteaijhmgfddjiaaDoor
