/- Contract of impl.TransposeTune. -/
import Derived.Test.YthnnjjcopehccaaMapped
import Derived.Test.YthnnjjcopehccaaWithin
import Derived.Test.YthnnjjcopehccaaTunL
set_option linter.unusedSimpArgs false
set_option linter.unnecessarySimpa false
set_option linter.unusedVariables false
set_option maxRecDepth 100000
namespace Go.Proofs.Ythnnjjcopehccaa
open Go.RowKit

def trF (by_ : Int) (x : Ton) : Ton := ⟨x.note + by_, x.start, x.len⟩

def trIn (b : Int) : Prop := -127 ≤ b ∧ b ≤ 127
instance (b : Int) : Decidable (trIn b) := by unfold trIn; infer_instance
noncomputable def trV (x : TunD) (b : Int) : TunD := if validTunB x = true then if trIn b then toV x.name (x.tones.map (trF b)) else ⟨.empty, []⟩ else ⟨.empty, []⟩
noncomputable def trC (x : TunD) (b : Int) : Int := if validTunB x = true then if trIn b then toC x.name (x.tones.map (trF b)) else 2 else 1
theorem tr_yes {x : TunD} {b : Int} (h : validTunB x = true) (g : trIn b) : trV x b = toV x.name (x.tones.map (trF b)) ∧ trC x b = toC x.name (x.tones.map (trF b)) := by unfold trV trC; rw [if_pos h, if_pos h, if_pos g, if_pos g]; exact ⟨rfl, rfl⟩
theorem tr_rng {x : TunD} {b : Int} (h : validTunB x = true) (g : ¬ trIn b) : trV x b = ⟨.empty, []⟩ ∧ trC x b = 2 := by unfold trV trC; rw [if_pos h, if_pos h, if_neg g, if_neg g]; exact ⟨rfl, rfl⟩
theorem tr_inv {x : TunD} {b : Int} (h : ¬ validTunB x = true) : trV x b = ⟨.empty, []⟩ ∧ trC x b = 1 := by unfold trV trC; rw [if_neg h, if_neg h]; exact ⟨rfl, rfl⟩
end Go.Proofs.Ythnnjjcopehccaa
