/- The search for places in bays, plain. No program in sight. -/
import Derived.Test.YteaijhmgfddjiaaBayL
set_option linter.unusedSimpArgs false
set_option linter.unnecessarySimpa false
set_option linter.unusedVariables false
set_option maxRecDepth 100000
namespace Go.Proofs.Yteaijhmgfddjiaa
open Go.RowKit

def zBay : BayD := ⟨⟨#[]⟩, 0, 0⟩
def zCas : CasD := ⟨⟨#[]⟩, 0, 0, 0, 0⟩
/-- A casting can be in a bay with those before it at their places. -/
def canP (bays : List BayD) (list : List CasD) (pl : List Int) (k bay : Nat) : Prop :=
  fitV (bays.getD bay zBay) (list.getD k zCas) ∧ ∀ i, i < pl.length → pl.getD i 0 = (bay : Int) → ¬ overV (list.getD i zCas) (list.getD k zCas)
def okP (bays : List BayD) (list : List CasD) (most : Nat) (pl : List Int) (bay : Nat) : Prop :=
  ((bay : Int) ∈ pl ∨ (notesOfL pl).length < most) ∧ canP bays list pl pl.length bay

/-- What a search leaves: found, the places, the nodes left, whether it was spent. -/
structure Res where
  found : Bool
  pl : List Int
  left : Nat
  spent : Bool
open Classical in
noncomputable def tryB (rec : List Int → Nat → Res) (ok : Nat → Prop) (pl : List Int) : Nat → Nat → Nat → Res
  | 0, _, left => ⟨false, pl, left, false⟩
  | n + 1, j, left =>
    if ok j then
      (if left = 0 then ⟨false, pl, 0, true⟩
       else if (rec (pl ++ [(j : Int)]) (left - 1)).found = true then rec (pl ++ [(j : Int)]) (left - 1)
       else if (rec (pl ++ [(j : Int)]) (left - 1)).spent = true then ⟨false, pl, (rec (pl ++ [(j : Int)]) (left - 1)).left, true⟩
       else tryB rec ok pl n (j + 1) (rec (pl ++ [(j : Int)]) (left - 1)).left)
    else tryB rec ok pl n (j + 1) left
noncomputable def runB (bays : List BayD) (list : List CasD) (most : Nat) : Nat → List Int → Nat → Res
  | 0, pl, left => ⟨true, pl, left, false⟩
  | d + 1, pl, left => tryB (runB bays list most d) (okP bays list most pl) pl bays.length 0 left

section
variable {rec : List Int → Nat → Res} {ok : Nat → Prop} {pl : List Int} {n j left : Nat}
theorem try_end : tryB rec ok pl 0 j left = ⟨false, pl, left, false⟩ := rfl
theorem try_skip (h : ¬ ok j) : tryB rec ok pl (n + 1) j left = tryB rec ok pl n (j + 1) left := by
  conv => lhs; unfold tryB
  rw [if_neg h]
theorem try_spent (h : ok j) (h0 : left = 0) : tryB rec ok pl (n + 1) j left = ⟨false, pl, 0, true⟩ := by
  unfold tryB
  rw [if_pos h, if_pos h0]
theorem try_found (h : ok j) (h0 : ¬ left = 0) (h1 : (rec (pl ++ [(j : Int)]) (left - 1)).found = true) : tryB rec ok pl (n + 1) j left = rec (pl ++ [(j : Int)]) (left - 1) := by
  unfold tryB
  rw [if_pos h, if_neg h0, if_pos h1]
theorem try_deep (h : ok j) (h0 : ¬ left = 0) (h1 : (rec (pl ++ [(j : Int)]) (left - 1)).found = false) (h2 : (rec (pl ++ [(j : Int)]) (left - 1)).spent = true) : tryB rec ok pl (n + 1) j left = ⟨false, pl, (rec (pl ++ [(j : Int)]) (left - 1)).left, true⟩ := by
  unfold tryB
  rw [if_pos h, if_neg h0, if_neg (by rw [h1]; exact Bool.false_ne_true), if_pos h2]
theorem try_next (h : ok j) (h0 : ¬ left = 0) (h1 : (rec (pl ++ [(j : Int)]) (left - 1)).found = false) (h2 : (rec (pl ++ [(j : Int)]) (left - 1)).spent = false) : tryB rec ok pl (n + 1) j left = tryB rec ok pl n (j + 1) (rec (pl ++ [(j : Int)]) (left - 1)).left := by
  conv => lhs; unfold tryB
  rw [if_pos h, if_neg h0, if_neg (by rw [h1]; exact Bool.false_ne_true), if_neg (by rw [h2]; exact Bool.false_ne_true)]
end

def plIn (nb : Nat) (pl : List Int) : Prop := ∀ x ∈ pl, 0 ≤ x ∧ x < nb
structure ResOk (nb d : Nat) (pl : List Int) (left : Nat) (r : Res) : Prop where
  left : r.left ≤ left
  found : r.found = true → r.spent = false ∧ r.pl.length = pl.length + d ∧ plIn nb r.pl
  none : r.found = false → r.pl = pl
  spent : r.spent = true → r.left = 0
theorem try_ok {nb d : Nat} {rec : List Int → Nat → Res} {ok : Nat → Prop} {pl : List Int} (hp : plIn nb pl) (hr : ∀ q l, q.length = pl.length + 1 → plIn nb q → ResOk nb d q l (rec q l)) :
    ∀ n j left, j + n = nb → ResOk nb (d + 1) pl left (tryB rec ok pl n j left)
  | 0, j, left, _ => ⟨Nat.le_refl _, (fun h => by cases h), fun _ => rfl, (fun h => by cases h)⟩
  | n + 1, j, left, hj => by
    by_cases h : ok j
    · by_cases h0 : left = 0
      · rw [try_spent h h0]
        exact ⟨Nat.zero_le _, (fun h => by cases h), fun _ => rfl, fun _ => rfl⟩
      · have hq : plIn nb (pl ++ [(j : Int)]) := fun x hx => by
          rcases List.mem_append.1 hx with hx | hx
          · exact hp x hx
          · rw [List.mem_singleton.1 hx]; omega
        have R := hr (pl ++ [(j : Int)]) (left - 1) (by simp) hq
        have hl := R.left
        cases h1 : (rec (pl ++ [(j : Int)]) (left - 1)).found
        · cases h2 : (rec (pl ++ [(j : Int)]) (left - 1)).spent
          · rw [try_next h h0 h1 h2]
            have := try_ok (ok := ok) hp hr n (j + 1) (rec (pl ++ [(j : Int)]) (left - 1)).left (by omega)
            exact ⟨by have := this.left; omega, this.found, this.none, this.spent⟩
          · rw [try_deep h h0 h1 h2]
            exact ⟨by simp only; omega, (fun h => by cases h), fun _ => rfl, fun _ => R.spent h2⟩
        · rw [try_found h h0 h1]
          refine ⟨by omega, fun _ => ?_, (fun h => by rw [h1] at h; cases h), R.spent⟩
          obtain ⟨f1, f2, f3⟩ := R.found h1
          exact ⟨f1, by rw [f2]; simp; omega, f3⟩
    · rw [try_skip h]
      exact try_ok hp hr n (j + 1) left (by omega)
theorem run_ok (bays : List BayD) (list : List CasD) (most : Nat) : ∀ d pl left, plIn bays.length pl → ResOk bays.length d pl left (runB bays list most d pl left)
  | 0, pl, left, hp => ⟨Nat.le_refl _, fun _ => ⟨rfl, rfl, hp⟩, (fun h => by cases h), (fun h => by cases h)⟩
  | d + 1, pl, left, hp => try_ok hp (fun q l _ hq => run_ok bays list most d q l hq) bays.length 0 left (by omega)

/-- Numbers from 0 to n - 1, one of them missing: fewer than n. -/
theorem strict_few : ∀ (n : Nat) (l : List Int) (a : Int), Strict l → (∀ x ∈ l, a ≤ x ∧ x < a + n) → l.length ≤ n
  | n, [], _, _, _ => Nat.zero_le _
  | 0, b :: l, a, _, h => by have := h b (List.mem_cons_self ..); omega
  | n + 1, b :: l, a, hs, h => by
    obtain ⟨h1, h2⟩ := List.pairwise_cons.1 hs
    have hb := h b (List.mem_cons_self ..)
    have := strict_few n l (a + 1) h2 fun x hx => by
      have := h1 x hx; have := h x (List.mem_cons_of_mem _ hx); omega
    simp only [List.length_cons]; omega
theorem used_few {nb : Nat} {pl : List Int} {bay : Nat} (hp : plIn nb pl) (hb : bay < nb) (hn : (bay : Int) ∉ pl) : (notesOfL pl).length < nb := by
  have hs := notesOfL_strict pl
  have hm : ∀ x ∈ putI (notesOfL pl) bay, (0 : Int) ≤ x ∧ x < 0 + (nb : Int) := fun x hx => by
    rcases (mem_putI _ _ _).1 hx with rfl | hx
    · omega
    · have := hp x ((notesOfL_mem pl x).1 hx); omega
  have h1 := strict_few nb (putI (notesOfL pl) bay) 0 (putI_strict _ _ hs) hm
  have h2 : ∀ (l : List Int) (b : Int), b ∉ l → (putI l b).length = l.length + 1 := by
    intro l
    induction l with
    | nil => intro b _; rfl
    | cons y ys ih =>
      intro b hb
      simp only [List.mem_cons, not_or] at hb
      by_cases g : b ≤ y
      · have e : putI (y :: ys) b = b :: y :: ys := by
          unfold putI
          rw [if_pos g, if_pos (by omega)]
        rw [e]; rfl
      · have e : putI (y :: ys) b = y :: putI ys b := by
          conv => lhs; unfold putI
          rw [if_neg g]
        rw [e, List.length_cons, ih b hb.2]; rfl
  rw [h2 _ _ (fun h => hn ((notesOfL_mem pl _).1 h))] at h1
  omega
theorem okP_most {bays : List BayD} {list : List CasD} {m : Nat} {pl : List Int} {bay : Nat} (hp : plIn bays.length pl) (hb : bay < bays.length) (hm : bays.length ≤ m) : okP bays list m pl bay ↔ okP bays list bays.length pl bay := by
  unfold okP
  constructor
  · rintro ⟨_, h⟩
    refine ⟨?_, h⟩
    by_cases g : (bay : Int) ∈ pl
    · exact .inl g
    · exact .inr (used_few hp hb g)
  · rintro ⟨h1, h⟩
    exact ⟨h1.imp id (fun h => by omega), h⟩
theorem try_same {nb : Nat} {r1 r2 : List Int → Nat → Res} {o1 o2 : Nat → Prop} {pl : List Int} (hp : plIn nb pl) (hr : ∀ q l, plIn nb q → r1 q l = r2 q l) (ho : ∀ j, j < nb → (o1 j ↔ o2 j)) :
    ∀ n j left, j + n = nb → tryB r1 o1 pl n j left = tryB r2 o2 pl n j left
  | 0, j, left, _ => rfl
  | n + 1, j, left, hj => by
    have hq : plIn nb (pl ++ [(j : Int)]) := fun x hx => by
      rcases List.mem_append.1 hx with hx | hx
      · exact hp x hx
      · rw [List.mem_singleton.1 hx]; omega
    have e := hr (pl ++ [(j : Int)]) (left - 1) hq
    have ih := fun l => try_same hp hr ho n (j + 1) l (by omega)
    unfold tryB
    rw [e]
    simp only [ih]
    by_cases h : o1 j
    · rw [if_pos h, if_pos ((ho j (by omega)).1 h)]
    · rw [if_neg h, if_neg fun h' => h ((ho j (by omega)).2 h')]
theorem run_same (bays : List BayD) (list : List CasD) {m : Nat} (hm : bays.length ≤ m) : ∀ d pl left, plIn bays.length pl → runB bays list m d pl left = runB bays list bays.length d pl left
  | 0, pl, left, _ => rfl
  | d + 1, pl, left, hp => try_same hp (fun q l hq => run_same bays list hm d q l hq) (fun j hj => okP_most hp hj hm) bays.length 0 left (by omega)

/-- The searches with 0, 1, .. bays at most. -/
noncomputable def fewB (bays : List BayD) (list : List CasD) : Nat → Nat → Nat → Res × Nat
  | 0, m, left => (⟨false, [], left, false⟩, m)
  | n + 1, m, left =>
    if (runB bays list m list.length [] left).found = true then (runB bays list m list.length [] left, m)
    else if (runB bays list m list.length [] left).spent = true then (⟨false, [], (runB bays list m list.length [] left).left, true⟩, m)
    else fewB bays list n (m + 1) (runB bays list m list.length [] left).left
section
variable {bays : List BayD} {list : List CasD} {n m left : Nat}
theorem few_found (h : (runB bays list m list.length [] left).found = true) : fewB bays list (n + 1) m left = (runB bays list m list.length [] left, m) := by unfold fewB; rw [if_pos h]
theorem few_spent (h : (runB bays list m list.length [] left).found = false) (h2 : (runB bays list m list.length [] left).spent = true) : fewB bays list (n + 1) m left = (⟨false, [], (runB bays list m list.length [] left).left, true⟩, m) := by
  unfold fewB; rw [if_neg (by rw [h]; exact Bool.false_ne_true), if_pos h2]
theorem few_next (h : (runB bays list m list.length [] left).found = false) (h2 : (runB bays list m list.length [] left).spent = false) : fewB bays list (n + 1) m left = fewB bays list n (m + 1) (runB bays list m list.length [] left).left := by
  conv => lhs; unfold fewB
  rw [if_neg (by rw [h]; exact Bool.false_ne_true), if_neg (by rw [h2]; exact Bool.false_ne_true)]
end

end Go.Proofs.Yteaijhmgfddjiaa
