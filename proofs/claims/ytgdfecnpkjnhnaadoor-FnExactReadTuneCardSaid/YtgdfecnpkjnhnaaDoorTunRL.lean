/- Which texts stand for a tune, and for which. No program in sight. -/
import Derived.Test.YtgdfecnpkjnhnaaDoorTunTL
import Derived.Test.YtgdfecnpkjnhnaaDoorReadL
import Derived.Lib.IndexMore
set_option linter.unusedSimpArgs false
set_option linter.unnecessarySimpa false
set_option linter.unusedVariables false
set_option maxRecDepth 100000
namespace Go.Proofs.YtgdfecnpkjnhnaaDoor
open Go.RowKit

theorem cut_hit {c : UInt8} {a r : List UInt8} (h : free c a) : Lib.cut (a ++ c :: r) [c] = (a, r, true) := by
  have h1 := Lib.index_one (a ++ c :: r) c
  have hi : Lib.index (a ++ c :: r) [c] = (a.length : Int) := by
    rcases Lib.index_spec (a ++ c :: r) [c] with ⟨hm, _⟩ | ⟨i, hi, hil, _, _⟩
    · exfalso
      have hn := Lib.indexByte_none (l := a ++ c :: r) (c := c) (by rw [← h1]; exact hm)
      exact hn a.length (by simp)
    · obtain ⟨hat, hbe⟩ := Lib.indexByte_some (l := a ++ c :: r) (c := c) (o := i) (by rw [← h1]; exact hi)
      rw [hi]
      rcases Nat.lt_trichotomy i a.length with g | g | g
      · exfalso
        rw [List.getElem?_append_left g, List.getElem?_eq_getElem g] at hat
        exact h _ (List.getElem_mem g) (Option.some.inj hat)
      · rw [g]
      · exact absurd (by simp) (hbe a.length g)
  unfold Lib.cut
  rw [if_pos (by rw [hi]; omega), hi]
  simp
theorem split_two {c : UInt8} {p a b : List UInt8} (h : splitC c p = [a, b]) : p = a ++ c :: b ∧ free c a ∧ free c b := by
  have hj := join_split c p
  rw [h] at hj
  have hf := splitC_free (c := c) p
  rw [h] at hf
  refine ⟨?_, hf a (by simp), hf b (by simp)⟩
  rw [← hj, Lib.join_cons]
  simp [Lib.joinTail]
theorem split_mk {c : UInt8} {a b : List UInt8} (ha : free c a) (hb : free c b) : splitC c (a ++ c :: b) = [a, b] := by rw [split_hit ha, split_none hb]
/-- Bytes of a decimal text. -/
theorem itoa_freeC {c : UInt8} (h1 : ¬ dig c) (h2 : c ≠ 45) (n : Int) : free c (Lib.itoa n) := by
  have hd : ∀ u : Nat, free c (Lib.decDigits u) := fun u b hb e => by
    have := (dec_canon u).1.digs b hb
    rw [e] at this
    exact h1 this
  by_cases h : n < 0
  · rw [itoa_negs h]
    intro b hb e
    rcases List.mem_cons.1 hb with hb | hb
    · rw [hb] at e; exact h2 e.symm
    · exact hd _ b hb e
  · rw [itoa_pos (by omega)]; exact hd _
def letter (b : UInt8) : Prop := 97 ≤ b.toNat
instance (b : UInt8) : Decidable (letter b) := by unfold letter; infer_instance
theorem name_letters {m : Nat} (h : m < 12) : ∀ b ∈ (nameAt m).data.toList, letter b := by
  rcases lt12 h with rfl | rfl | rfl | rfl | rfl | rfl | rfl | rfl | rfl | rfl | rfl | rfl <;> decide
theorem name_inj {m k : Nat} (h : m < 12) (h2 : k < 12) (e : (nameAt m).data.toList = (nameAt k).data.toList) : m = k := by
  revert e
  rcases lt12 h with rfl | rfl | rfl | rfl | rfl | rfl | rfl | rfl | rfl | rfl | rfl | rfl <;> rcases lt12 h2 with rfl | rfl | rfl | rfl | rfl | rfl | rfl | rfl | rfl | rfl | rfl | rfl <;> decide
theorem itoa_low (n : Int) : ∀ b ∈ Lib.itoa n, ¬ letter b := by
  have hd : ∀ u : Nat, ∀ b ∈ Lib.decDigits u, ¬ letter b := fun u b hb e => by
    have := (dec_canon u).1.digs b hb
    unfold dig at this; unfold letter at e; omega
  by_cases h : n < 0
  · rw [itoa_negs h]
    intro b hb e
    rcases List.mem_cons.1 hb with hb | hb
    · rw [hb] at e; revert e; decide
    · exact hd _ b hb e
  · rw [itoa_pos (by omega)]; exact hd _
theorem app_split : ∀ (a b x y : List UInt8), (∀ c ∈ a, letter c) → (∀ c ∈ b, letter c) → (∀ c ∈ x, ¬ letter c) → (∀ c ∈ y, ¬ letter c) → a ++ x = b ++ y → a = b ∧ x = y
  | [], [], x, y, _, _, _, _, h => ⟨rfl, h⟩
  | c :: a, d :: b, x, y, ha, hb, hx, hy, h => by
    simp only [List.cons_append, List.cons.injEq] at h
    obtain ⟨h1, h2⟩ := app_split a b x y (fun c hc => ha c (by simp [hc])) (fun c hc => hb c (by simp [hc])) hx hy h.2
    exact ⟨by rw [h.1, h1], h2⟩
  | c :: a, [], x, y, ha, _, _, hy, h => by
    simp only [List.nil_append] at h
    exact absurd (ha c (by simp)) (hy c (by rw [← h]; simp))
  | [], d :: b, x, y, _, hb, hx, _, h => by
    simp only [List.nil_append] at h
    exact absurd (hb d (by simp)) (hx d (by rw [h]; simp))
theorem note_inj {n m : Nat} (h : noteL n = noteL m) : n = m := by
  unfold noteL at h
  obtain ⟨h1, h2⟩ := app_split _ _ _ _ (name_letters (m := n % 12) (by omega)) (name_letters (m := m % 12) (by omega)) (itoa_low _) (itoa_low _) h
  have e1 := name_inj (by omega) (by omega) h1
  have e2 := itoa_inj h2
  omega
theorem note_free {c : UInt8} (h1 : ¬ dig c) (h2 : c ≠ 45) (h3 : ¬ letter c) (n : Nat) : free c (noteL n) := by
  unfold noteL
  intro b hb e
  rcases List.mem_append.1 hb with hb | hb
  · exact h3 (by rw [← e]; exact name_letters (by omega) b hb)
  · exact itoa_freeC h1 h2 _ b hb e
/-- The note that a text names. -/
def nnB (a : List UInt8) : Prop := ∃ n : Nat, n ≤ 127 ∧ noteL n = a
noncomputable instance (a : List UInt8) : Decidable (nnB a) := Classical.propDecidable _
noncomputable def nnV (a : List UInt8) : Int := if h : nnB a then (h.choose : Int) else 0
theorem nn_yes {n : Nat} (h : n ≤ 127) : nnB (noteL n) ∧ nnV (noteL n) = n := by
  have hb : nnB (noteL n) := ⟨n, h, rfl⟩
  refine ⟨hb, ?_⟩
  unfold nnV
  rw [dif_pos hb]
  have := note_inj hb.choose_spec.2
  rw [this]
theorem nn_no {a : List UInt8} (h : ¬ nnB a) : nnV a = 0 := dif_neg h
theorem nn_text {a : List UInt8} (h : nnB a) : noteL (nnV a).toNat = a := by
  obtain ⟨n, hn, rfl⟩ := h
  rw [(nn_yes hn).2]; rfl
theorem nnV_bd (a : List UInt8) : 0 ≤ nnV a ∧ nnV a ≤ 127 := by
  by_cases h : nnB a
  · obtain ⟨n, hn, rfl⟩ := h
    rw [(nn_yes hn).2]; omega
  · rw [nn_no h]; omega
/-- A piece is a tone's text. -/
def toneB (p : List UInt8) : Prop := ∃ a b c d, splitC 64 p = [a, b] ∧ splitC 43 b = [c, d] ∧ nnB a ∧ numOk c = true ∧ numOk d = true
/-- The tone, as the program cuts it out of a piece. -/
noncomputable def toneV (p : List UInt8) : Ton := ⟨nnV (Lib.cut p [64]).1, numV (Lib.cut (Lib.cut p [64]).2.1 [43]).1, numV (Lib.cut (Lib.cut p [64]).2.1 [43]).2.1⟩
theorem toneV_of {p a b c d : List UInt8} (h1 : splitC 64 p = [a, b]) (h2 : splitC 43 b = [c, d]) : toneV p = ⟨nnV a, numV c, numV d⟩ := by
  obtain ⟨e1, f1, _⟩ := split_two h1
  obtain ⟨e2, f2, _⟩ := split_two h2
  unfold toneV
  rw [e1, cut_hit f1]
  simp only
  rw [e2, cut_hit f2]
theorem tone_text {p : List UInt8} (h : toneB p) : tonL (toneV p) = p := by
  obtain ⟨a, b, c, d, h1, h2, h3, h4, h5⟩ := h
  rw [toneV_of h1 h2]
  obtain ⟨e1, _, _⟩ := split_two h1
  obtain ⟨e2, _, _⟩ := split_two h2
  unfold tonL
  simp only
  rw [nn_text h3, num_itoa h4, num_itoa h5, e1, e2]
  simp
theorem tone_back {t : Ton} (h : TonOk t) : toneB (tonL t) ∧ toneV (tonL t) = t := by
  have h1 := h.note; have h2 := h.start; have h3 := h.len
  unfold noteOk at h1
  obtain ⟨n, hn⟩ : ∃ n : Nat, t.note = n := ⟨t.note.toNat, by omega⟩
  have hn' : t.note.toNat = n := by omega
  obtain ⟨o1, v1⟩ := itoa_num (n := t.start) (by omega) (by omega)
  obtain ⟨o2, v2⟩ := itoa_num (n := t.len) (by omega) (by omega)
  have e : tonL t = noteL n ++ 64 :: (Lib.itoa t.start ++ 43 :: Lib.itoa t.len) := by unfold tonL; rw [hn']; simp
  have f64 : free 64 (Lib.itoa t.start ++ 43 :: Lib.itoa t.len) := fun b hb hc => by
    rcases List.mem_append.1 hb with hb | hb
    · exact itoa_freeC (by decide) (by decide) _ b hb hc
    · rcases List.mem_cons.1 hb with hb | hb
      · rw [hb] at hc; revert hc; decide
      · exact itoa_freeC (by decide) (by decide) _ b hb hc
  have s1 : splitC 64 (tonL t) = [noteL n, Lib.itoa t.start ++ 43 :: Lib.itoa t.len] := by rw [e]; exact split_mk (note_free (by decide) (by decide) (by decide) _) f64
  have s2 : splitC 43 (Lib.itoa t.start ++ 43 :: Lib.itoa t.len) = [Lib.itoa t.start, Lib.itoa t.len] := split_mk (itoa_freeC (by decide) (by decide) _) (itoa_freeC (by decide) (by decide) _)
  obtain ⟨b1, b2⟩ := nn_yes (n := n) (by omega)
  refine ⟨⟨_, _, _, _, s1, s2, b1, o1, o2⟩, ?_⟩
  rw [toneV_of s1 s2, b2, v1, v2, ← hn]
theorem ton_free (t : Ton) : free 32 (tonL t) := by
  unfold tonL
  intro b hb e
  simp only [List.mem_append, List.mem_singleton] at hb
  rcases hb with (((hb | hb) | hb) | hb) | hb
  · exact note_free (by decide) (by decide) (by decide) _ b hb e
  · rw [hb] at e; revert e; decide
  · exact itoa_freeC (by decide) (by decide) _ b hb e
  · rw [hb] at e; revert e; decide
  · exact itoa_freeC (by decide) (by decide) _ b hb e

def words (s : ByteArray) : List (List UInt8) := splitC 32 s.data.toList
/-- The tune that the program cuts out of a text. -/
noncomputable def rtT (s : ByteArray) : TunD := ⟨bytesB ((words s).headD []), (words s).tail.map toneV⟩
def rtOk (s : ByteArray) : Prop := (∀ p ∈ (words s).tail, toneB p) ∧ TunOk (rtT s)
noncomputable instance (s : ByteArray) : Decidable (rtOk s) := Classical.propDecidable _
noncomputable def rtB (s : ByteArray) : Bool := decide (rtOk s)
noncomputable def rtV (s : ByteArray) : TunD := if rtB s then rtT s else ⟨.empty, []⟩
theorem words_cons (s : ByteArray) : words s = (words s).headD [] :: (words s).tail := by
  have := splitC_ne 32 s.data.toList
  unfold words
  cases h : splitC 32 s.data.toList with
  | nil => exact absurd h this
  | cons a r => rfl
theorem rt_yes {s : ByteArray} (h : rtOk s) : rtB s = true ∧ rtV s = rtT s := by
  have : rtB s = true := decide_eq_true h
  exact ⟨this, if_pos this⟩
theorem rt_no {s : ByteArray} (h : ¬ rtOk s) : rtB s = false ∧ rtV s = ⟨.empty, []⟩ := by
  have : rtB s = false := decide_eq_false h
  exact ⟨this, if_neg (by rw [this]; simp)⟩
/-- The program's way: it writes the tune again, and compares. -/
theorem rt_again {s : ByteArray} : rtOk s ↔ (validTunB (rtT s) = true ∧ tunT (rtT s) = s) := by
  have hw := words_cons s
  constructor
  · rintro ⟨h1, h2⟩
    have hv : validTunB (rtT s) = true := by simpa [validTunB] using h2
    refine ⟨hv, ?_⟩
    rw [tunT_yes hv, ← tunL_join]
    have e : (rtT s).tones.map tonL = (words s).tail := by
      show ((words s).tail.map toneV).map tonL = _
      rw [List.map_map]
      conv => rhs; rw [← List.map_id (words s).tail]
      exact List.map_congr_left fun p hp => tone_text (h1 p hp)
    have e2 : (rtT s).name.data.toList = (words s).headD [] := bytesB_list _
    rw [e, e2, ← hw]
    unfold words
    rw [join_split, bytesB_of]
  · rintro ⟨hv, ht⟩
    have h2 : TunOk (rtT s) := by simpa [validTunB] using hv
    refine ⟨?_, h2⟩
    rw [tunT_yes hv, ← tunL_join] at ht
    have e2 : (rtT s).name.data.toList = (words s).headD [] := bytesB_list _
    have hl : s.data.toList = Lib.join ((words s).headD [] :: (rtT s).tones.map tonL) [32] := by
      conv => lhs; rw [← ht]
      rw [bytesB_list, e2]
    have hs : words s = (words s).headD [] :: (rtT s).tones.map tonL := by
      conv => lhs; unfold words; rw [hl]
      refine split_join _ (by simp) fun p hp => ?_
      rcases List.mem_cons.1 hp with rfl | hp
      · exact splitC_free s.data.toList _ (by have : (words s).headD [] ∈ words s := by rw [hw]; simp
                                              exact this)
      · obtain ⟨t, _, rfl⟩ := List.mem_map.1 hp
        exact ton_free t
    have ht2 : (words s).tail = (rtT s).tones.map tonL := by
      have := congrArg List.tail hs
      simpa using this
    intro p hp
    rw [ht2] at hp
    obtain ⟨t, ht3, rfl⟩ := List.mem_map.1 hp
    obtain ⟨i, hi, rfl⟩ := List.getElem_of_mem ht3
    exact (tone_back (h2.tones i hi hi).1).1

end Go.Proofs.YtgdfecnpkjnhnaaDoor
