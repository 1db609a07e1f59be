/- What SplitMethod answers, and the form of its rows of texts. -/
import Derived.Test.YtgdfecnpkjnhnaaDoorMethL
import Derived.Test.YtgdfecnpkjnhnaaDoorChange
import Derived.Test.YtgdfecnpkjnhnaaDoorKey
import Derived.Test.YtgdfecnpkjnhnaaDoorSplitS
set_option linter.unusedSimpArgs false
set_option linter.unnecessarySimpa false
set_option linter.unusedVariables false
set_option maxRecDepth 100000
namespace Go.Proofs.YtgdfecnpkjnhnaaDoor
open Go.RowKit

def strC (ps : List (List UInt8)) : List Value := ps.map fun p => Value.string (bytesB p)
theorem strC_len (ps : List (List UInt8)) : (strC ps).length = ps.length := by simp [strC]
theorem strC_at {ps : List (List UInt8)} {k : Nat} (h : k < ps.length) : (strC ps)[k]? = some (.string (bytesB ps[k])) := by simp [strC, h]
def RdStrs (w : World) (v : Value) (ps : List (List UInt8)) : Prop := Sl w v ps.length (strC ps)
def OwnStrs (B E : Nat) (w : World) (v : Value) (ps : List (List UInt8)) : Prop := OwnRow B E w 9 1 v ps.length (strC ps)
section
variable {B E B' E' : Nat} {w w' : World} {v : Value} {xs : List (List UInt8)}
theorem RdStrs.mono (h : RdStrs w v xs) (hb : Below w.heap.size w w') : RdStrs w' v xs := Sl.mono h hb
theorem OwnStrs.mono (h : OwnStrs B E w v xs) (hb : Below w.heap.size w w') : OwnStrs B E w' v xs := OwnRow.mono h hb
theorem OwnStrs.touch (h : OwnStrs B E w v xs) (t : Touch B' E' w w') (hd : E ≤ B' ∨ E' ≤ B) : OwnStrs B E w' v xs := OwnRow.touch h t hd
theorem OwnStrs.rd (h : OwnStrs B E w v xs) : RdStrs w v xs := OwnRow.sl h
theorem OwnStrs.form (h : OwnStrs B E w v xs) : ∃ a cap, v = .slice a xs.length cap := OwnRow.form h
theorem OwnStrs.wide (h : OwnStrs B E w v xs) (hB : B' ≤ B) (hE : E ≤ E') : OwnStrs B' E' w v xs := OwnRow.wide h hB hE
theorem OwnStrs.nil (B E : Nat) (w : World) : OwnStrs B E w (.slice none 0 0) [] := ⟨World.ownsRow_nil _ _ _ _, fun k hk => by simp [Value.ownBlock] at hk⟩
theorem OwnStrs.mk' (h : w.ownsRow B 9 1 v xs.length (strC xs)) : OwnStrs B w.heap.size w v xs := OwnRow.mk' h
end

theorem splitC_small {c : UInt8} {l p : List UInt8} (h : p ∈ splitC c l) : p.length ≤ l.length := piece_len l p h
theorem mtL_small {l : List UInt8} (h : l.length ≤ 1048576) : ∀ q ∈ mtL l, q.length ≤ 1048576 := by
  intro q hq
  unfold mtL at hq
  cases hs : splitC 120 l with
  | nil => exact absurd hs (splitC_ne 120 l)
  | cons p ps =>
    have hm : ∀ r ∈ p :: ps, r.length ≤ l.length := fun r hr => splitC_small (c := 120) (by rw [hs]; exact hr)
    rw [hs] at hq
    simp only [partsP] at hq
    rcases List.mem_append.1 hq with hq | hq
    · have := pieceP_small p q hq
      have := hm p (by simp)
      omega
    · obtain ⟨r, hr, hq⟩ := List.mem_flatMap.1 hq
      unfold crossP at hq
      rcases List.mem_cons.1 hq with rfl | hq
      · simp
      · have := pieceP_small r q hq
        have := hm r (by simp [hr])
        omega

def mdL (s : ByteArray) : List (List UInt8) := mtL s.data.toList
def mdBad (s : ByteArray) (n : Int) : Prop := mdL s = [] ∨ ∃ p ∈ mdL s, changeB (bytesB p) n = false
open Classical in
noncomputable def mdC (s : ByteArray) (n : Int) : Int := if stage n then (if mdBad s n then 8 else if 120 < (mdL s).length then 5 else 0) else 2
noncomputable def mdV (s : ByteArray) (n : Int) : List (List UInt8) := if mdC s n = 0 then mdL s else []
theorem md_no {s : ByteArray} {n : Int} (h : ¬ stage n) : mdC s n = 2 ∧ mdV s n = [] := by
  have e : mdC s n = 2 := by unfold mdC; rw [if_neg h]
  exact ⟨e, by unfold mdV; rw [e]; rfl⟩
theorem md_bad {s : ByteArray} {n : Int} (h : stage n) (h2 : mdBad s n) : mdC s n = 8 ∧ mdV s n = [] := by
  have e : mdC s n = 8 := by unfold mdC; rw [if_pos h, if_pos h2]
  exact ⟨e, by unfold mdV; rw [e]; rfl⟩
theorem md_full {s : ByteArray} {n : Int} (h : stage n) (h2 : ¬ mdBad s n) (h3 : 120 < (mdL s).length) : mdC s n = 5 ∧ mdV s n = [] := by
  have e : mdC s n = 5 := by unfold mdC; rw [if_pos h, if_neg h2, if_pos h3]
  exact ⟨e, by unfold mdV; rw [e]; rfl⟩
theorem md_ok {s : ByteArray} {n : Int} (h : stage n) (h2 : ¬ mdBad s n) (h3 : ¬ 120 < (mdL s).length) : mdC s n = 0 ∧ mdV s n = mdL s := by
  have e : mdC s n = 0 := by unfold mdC; rw [if_pos h, if_neg h2, if_neg h3]
  exact ⟨e, by unfold mdV; rw [e]; rfl⟩
theorem md_len (s : ByteArray) (n : Int) : (mdV s n).length ≤ 120 := by
  by_cases h : stage n
  · by_cases h2 : mdBad s n
    · rw [(md_bad h h2).2]; simp
    · by_cases h3 : 120 < (mdL s).length
      · rw [(md_full h h2 h3).2]; simp
      · rw [(md_ok h h2 h3).2]; omega
  · rw [(md_no h).2]; simp
theorem md_zero {s : ByteArray} {n : Int} (h : mdC s n = 0) : stage n ∧ mdV s n = mdL s ∧ (∀ p ∈ mdL s, changeB (bytesB p) n = true) ∧ (mdL s).length ≤ 120 := by
  by_cases h1 : stage n
  · by_cases h2 : mdBad s n
    · rw [(md_bad h1 h2).1] at h; omega
    · by_cases h3 : 120 < (mdL s).length
      · rw [(md_full h1 h2 h3).1] at h; omega
      · refine ⟨h1, (md_ok h1 h2 h3).2, fun p hp => ?_, by omega⟩
        cases g : changeB (bytesB p) n
        · exact absurd (.inr ⟨p, hp, g⟩) h2
        · rfl
  · rw [(md_no h1).1] at h; omega
theorem change_empty (n : Int) : changeB (bytesB []) n = false := by
  unfold changeB
  split
  · exact (stay_empty (by rw [bytesB_size]; rfl)).2
  · rfl
theorem md_hole {s : ByteArray} {n : Int} (h : [] ∈ mdL s ∨ mdL s = []) : mdBad s n := by
  rcases h with h | h
  · exact .inr ⟨[], h, change_empty n⟩
  · exact .inl h

/-- What SplitMethod of both packages answers. -/
def MdR (s : ByteArray) (n : Int) (w : World) (e : Ending) (w' : World) : Prop := ∃ v, e = .returned (.tuple #[v, .int .i64 (mdC s n)]) ∧ OwnStrs w.heap.size w'.heap.size w' v (mdV s n) ∧ Below w.heap.size w w'
theorem MdR.none {s : ByteArray} {n c : Int} {w w' : World} (h : mdC s n = c ∧ mdV s n = []) (hb : Below w.heap.size w w') : MdR s n w (.returned (.tuple #[.slice none 0 0, .int .i64 c])) w' :=
  ⟨_, by rw [h.1], by rw [h.2]; exact OwnStrs.nil _ _ _, hb⟩
theorem MdR.some {s : ByteArray} {n : Int} {w w' : World} {v : Value} (h : mdC s n = 0 ∧ mdV s n = mdL s) (ho : w'.ownsRow w.heap.size 9 1 v (mdL s).length (strC (mdL s))) (hb : Below w.heap.size w w') : MdR s n w (.returned (.tuple #[v, .int .i64 0])) w' :=
  ⟨_, by rw [h.1], by rw [h.2]; exact OwnStrs.mk' ho, hb⟩

end Go.Proofs.YtgdfecnpkjnhnaaDoor
