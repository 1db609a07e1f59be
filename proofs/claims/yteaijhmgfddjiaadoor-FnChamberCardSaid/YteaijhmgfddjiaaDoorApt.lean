/- Two rows of the call's own that lie apart, each grown in turn. No program in sight. -/
import Derived.Test.YteaijhmgfddjiaaDoorApp
set_option linter.unusedSimpArgs false
set_option linter.unnecessarySimpa false
set_option linter.unusedVariables false
namespace Go.Proofs.YteaijhmgfddjiaaDoor
open Go.RowKit

def Apt (a b : Value) : Prop := a.ownBlock = none ∨ b.ownBlock = none ∨ a.ownBlock ≠ b.ownBlock
theorem Apt.symm {a b : Value} (h : Apt a b) : Apt b a := by
  rcases h with h | h | h
  · exact .inr (.inl h)
  · exact .inl h
  · exact .inr (.inr fun e => h e.symm)
theorem Apt.keep {w w' : World} {base : Nat} {e : TypeId} {size n : Nat} {v o : Value} {cs : List Value} (ha : Apt v o) (h : w.ownsRow base e size o n cs) (hg : w.grownBy w' v.ownBlock) : w'.ownsRow base e size o n cs := by
  refine World.ownsRow.kept h hg ?_
  cases ho : o.ownBlock with
  | none => exact .inl rfl
  | some k =>
    refine .inr ?_
    rcases ha with h | h | h
    · rw [h]; simp
    · rw [ho] at h; cases h
    · rw [ho] at h; exact fun e => h e.symm
theorem Apt.next {v v' o : Value} {H : Nat} (ha : Apt v o) (hv : v'.ownBlock = v.ownBlock ∨ v'.ownBlock = some (H + 1)) (ho : ∀ k, o.ownBlock = some k → k < H) : Apt v' o := by
  rcases hv with h | h
  · rcases ha with g | g | g
    · exact .inl (h.trans g)
    · exact .inr (.inl g)
    · exact .inr (.inr (by rw [h]; exact g))
  · cases hb : o.ownBlock with
    | none => exact .inr (.inl hb)
    | some k =>
      refine .inr (.inr ?_)
      have := ho k hb
      rw [h, hb]
      simp only [ne_eq, Option.some.injEq]
      omega

end Go.Proofs.YteaijhmgfddjiaaDoor
