/- The shift of the fewest extra notes: plain. -/
import Derived.Test.YtgelilelmmocgaaShift
import Derived.Test.YtgelilelmmocgaaExtra
set_option linter.unusedSimpArgs false
set_option linter.unnecessarySimpa false
set_option linter.unusedVariables false
namespace Go.Proofs.Ytgelilelmmocgaa
open Go.RowKit

/-- Is the k-th shift better than what was found. -/
noncomputable def fewBetter (ns zs : List Int) (k : Nat) (s : Bool × Int × List Int) : Bool := exB (shK k) zs && (!s.1 || decide ((exV ns (shK k) zs).length < s.2.2.length))
/-- Found, the best shift and its notes after k shifts. -/
noncomputable def few (ns zs : List Int) : Nat → Bool × Int × List Int
  | 0 => (false, 0, [])
  | k + 1 => if fewBetter ns zs k (few ns zs k) = true then (true, shK k, exV ns (shK k) zs) else few ns zs k
theorem few_zero (ns zs : List Int) : few ns zs 0 = (false, 0, []) := rfl
theorem few_yes {ns zs : List Int} {k : Nat} (h : fewBetter ns zs k (few ns zs k) = true) : few ns zs (k + 1) = (true, shK k, exV ns (shK k) zs) := by
  show (if _ then _ else _) = _; rw [if_pos h]
theorem few_no {ns zs : List Int} {k : Nat} (h : ¬ fewBetter ns zs k (few ns zs k) = true) : few ns zs (k + 1) = few ns zs k := by
  show (if _ then _ else _) = _; rw [if_neg h]
theorem few_len (ns zs : List Int) : ∀ k, (few ns zs k).2.2.length ≤ zs.length
  | 0 => by simp [few_zero]
  | k + 1 => by
    by_cases h : fewBetter ns zs k (few ns zs k) = true
    · rw [few_yes h]; exact exV_len _ _ _
    · rw [few_no h]; exact few_len ns zs k
theorem better_a {ns zs : List Int} {k : Nat} {s : Bool × Int × List Int} (h : exB (shK k) zs = false) : ¬ fewBetter ns zs k s = true := by simp [fewBetter, h]
theorem better_b {ns zs : List Int} {k : Nat} {l : Int} {q : List Int} (h : exB (shK k) zs = true) : fewBetter ns zs k (false, l, q) = true := by simp [fewBetter, h]
theorem better_c {ns zs : List Int} {k : Nat} {l : Int} {q : List Int} (h : exB (shK k) zs = true) (h2 : (exV ns (shK k) zs).length < q.length) : fewBetter ns zs k (true, l, q) = true := by simp [fewBetter, h, h2]
theorem better_d {ns zs : List Int} {k : Nat} {l : Int} {q : List Int} (h2 : ¬ (exV ns (shK k) zs).length < q.length) : ¬ fewBetter ns zs k (true, l, q) = true := by simp [fewBetter]; intro _; omega

noncomputable def feV (x : TunD) (ns : List Int) : List Int := if askC x ns 0 = 0 then (few ns (sel allT x.tones) 49).2.2 else []
noncomputable def feN (x : TunD) (ns : List Int) : Int := if askC x ns 0 = 0 then (few ns (sel allT x.tones) 49).2.1 else 0
noncomputable def feC (x : TunD) (ns : List Int) : Int := if askC x ns 0 = 0 then (if (few ns (sel allT x.tones) 49).1 = true then 0 else 3) else askC x ns 0
/-- Nothing found: nothing kept. -/
theorem few_none (ns zs : List Int) : ∀ k, (few ns zs k).1 = false → few ns zs k = (false, 0, [])
  | 0, _ => rfl
  | k + 1, h => by
    by_cases g : fewBetter ns zs k (few ns zs k) = true
    · rw [few_yes g] at h; cases h
    · rw [few_no g] at h ⊢; exact few_none ns zs k h
theorem fe_len (x : TunD) (ns : List Int) (h : x.tones.length ≤ 1048576) : (feV x ns).length ≤ 1048576 := by
  unfold feV; split
  · have := few_len ns (sel allT x.tones) 49; rw [sel_eq] at *; simp at *; omega
  · simp

end Go.Proofs.Ytgelilelmmocgaa
