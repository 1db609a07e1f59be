/- The parts of a method: cutting at crosses and points, and reading byte by byte, agree. No program in sight. -/
import Derived.Test.YtgdfecnpkjnhnaaDoorSplitL
set_option linter.unusedSimpArgs false
set_option linter.unnecessarySimpa false
set_option linter.unusedVariables false
set_option maxRecDepth 100000
namespace Go.Proofs.YtgdfecnpkjnhnaaDoor
open Go.RowKit

/-- The parts of one piece between crosses. -/
def pieceP (p : List UInt8) : List (List UInt8) := if p = [] then [] else splitC 46 p
def crossP (q : List UInt8) : List (List UInt8) := [120] :: pieceP q
/-- The parts of the pieces of a method. -/
def partsP : List (List UInt8) → List (List UInt8)
  | [] => []
  | p :: ps => pieceP p ++ ps.flatMap crossP
/-- The parts of a method. -/
def mtL (l : List UInt8) : List (List UInt8) := partsP (splitC 120 l)
/-- The same with a word begun. -/
def partsW (w : List UInt8) (o : Bool) : List (List UInt8) → List (List UInt8)
  | [] => []
  | p :: ps => (if o = true ∨ w ++ p ≠ [] then splitC 46 (w ++ p) else []) ++ ps.flatMap crossP
/-- Byte by byte. -/
def msM : List UInt8 → List UInt8 → Bool → Option (List (List UInt8))
  | [], w, o => if w ≠ [] then some [w] else if o = true then none else some []
  | b :: l, w, o =>
    if b = 120 then (if w ≠ [] then (msM l [] false).map (fun r => w :: [120] :: r) else if o = true then none else (msM l [] false).map (fun r => [120] :: r))
    else if b = 46 then (if w = [] then none else (msM l [] true).map (fun r => w :: r))
    else msM l (w ++ [b]) o
def okP (r : List (List UInt8)) : Option (List (List UInt8)) := if [] ∈ r then none else some r
theorem okP_cons {w : List UInt8} (h : w ≠ []) (r : List (List UInt8)) : okP (w :: r) = (okP r).map (fun r => w :: r) := by
  unfold okP
  by_cases g : [] ∈ r
  · rw [if_pos g, if_pos (List.mem_cons_of_mem _ g)]; rfl
  · rw [if_neg g, if_neg]; · rfl
    intro hh
    rcases List.mem_cons.1 hh with e | e
    · exact h e.symm
    · exact g e
theorem okP_bad (r : List (List UInt8)) : okP ([] :: r) = none := by unfold okP; rw [if_pos (by simp)]
theorem partsP_eq : ∀ ps, partsP ps = partsW [] false ps
  | [] => rfl
  | p :: ps => by
    simp only [partsP, partsW, pieceP, List.nil_append]
    by_cases h : p = []
    · simp [h]
    · simp [h]
theorem msM_eq : ∀ (l w : List UInt8) (o : Bool), free 46 w → msM l w o = okP (partsW w o (splitC 120 l))
  | [], w, o, hw => by
    simp only [msM, splitC, partsW, List.append_nil, List.flatMap_nil]
    by_cases h : w = []
    · subst h
      cases o
      · simp [okP]
      · simp [okP, splitC]
    · rw [if_pos h, if_pos (.inr h), split_none hw]
      unfold okP
      rw [if_neg]
      intro hh
      exact h (List.mem_singleton.1 hh).symm
  | b :: l, w, o, hw => by
    have hne := splitC_ne 120 l
    by_cases h1 : b = 120
    · subst h1
      have ih := msM_eq l [] false (fun b hb => by cases hb)
      have e : partsW w o (splitC 120 (120 :: l)) = (if o = true ∨ w ≠ [] then [w] else []) ++ [120] :: partsW [] false (splitC 120 l) := by
        have e2 : (splitC 120 l).flatMap crossP = [120] :: partsW [] false (splitC 120 l) := by
          rw [← partsP_eq]
          cases hs : splitC 120 l with
          | nil => exact absurd hs hne
          | cons q qs => simp [partsP, crossP]
        rw [show splitC 120 (120 :: l) = [] :: splitC 120 l by simp [splitC]]
        rw [show partsW w o ([] :: splitC 120 l) = (if o = true ∨ w ++ [] ≠ [] then splitC 46 (w ++ []) else []) ++ (splitC 120 l).flatMap crossP from rfl]
        rw [e2, List.append_nil, split_none hw]
      simp only [msM, if_true]
      rw [e, ih]
      by_cases h : w = []
      · subst h
        cases o
        · rw [if_neg (by simp), if_neg (by simp), if_neg (by simp), List.nil_append, okP_cons (by simp)]
        · rw [if_neg (by simp), if_pos rfl, if_pos (.inl rfl), List.singleton_append, okP_bad]
      · rw [if_pos h, if_pos (.inr h), List.singleton_append, okP_cons h, okP_cons (by simp), Option.map_map]; rfl
    · by_cases h2 : b = 46
      · subst h2
        have ih := msM_eq l [] true (fun b hb => by cases hb)
        have e : partsW w o (splitC 120 (46 :: l)) = w :: partsW [] true (splitC 120 l) := by
          simp only [splitC]
          rw [if_neg h1]
          cases hs : splitC 120 l with
          | nil => exact absurd hs hne
          | cons q qs =>
            simp only [consH, partsW]
            rw [if_pos (.inr (by simp)), split_hit hw, if_pos (.inl trivial)]
            rfl
        rw [show msM (46 :: l) w o = (if w = [] then none else (msM l [] true).map (fun r => w :: r)) by simp [msM], e, ih]
        by_cases h : w = []
        · subst h
          rw [if_pos rfl, okP_bad]
        · rw [if_neg h, okP_cons h]
      · have ih := msM_eq l (w ++ [b]) o (fun x hx => by
          rcases List.mem_append.1 hx with hx | hx
          · exact hw x hx
          · rw [List.mem_singleton.1 hx]; exact h2)
        have e : partsW w o (splitC 120 (b :: l)) = partsW (w ++ [b]) o (splitC 120 l) := by
          simp only [splitC]
          rw [if_neg h1]
          cases hs : splitC 120 l with
          | nil => exact absurd hs hne
          | cons q qs =>
            simp only [consH, partsW]
            rw [if_pos (.inr (by simp)), if_pos (.inr (by simp)), List.append_assoc, List.singleton_append]
        simp only [msM]
        rw [if_neg h1, if_neg h2, e, ih]
theorem ms_parts (l : List UInt8) : msM l [] false = okP (mtL l) := by rw [msM_eq l [] false (fun b hb => by cases hb), ← partsP_eq]; rfl
theorem ms_some {l : List UInt8} {r : List (List UInt8)} (h : msM l [] false = some r) : mtL l = r ∧ [] ∉ mtL l := by
  rw [ms_parts] at h
  unfold okP at h
  split at h
  · cases h
  · rename_i hn; exact ⟨by simpa using h, hn⟩
theorem ms_none {l : List UInt8} (h : msM l [] false = none) : [] ∈ mtL l := by
  rw [ms_parts] at h
  unfold okP at h
  split at h
  · assumption
  · cases h

/-- How many parts there can be, and how long they are. -/
theorem pieceP_len (p : List UInt8) : (pieceP p).length ≤ p.length + 1 := by
  unfold pieceP
  split
  · simp
  · exact splitC_len_le _ _
theorem pieceP_small (p : List UInt8) : ∀ q ∈ pieceP p, q.length ≤ p.length := by
  unfold pieceP
  split
  · intro q hq; cases hq
  · exact fun q hq => piece_len p q hq

end Go.Proofs.YtgdfecnpkjnhnaaDoor
